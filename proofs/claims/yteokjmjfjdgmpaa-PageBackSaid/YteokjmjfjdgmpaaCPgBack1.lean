import Derived.Test.YteokjmjfjdgmpaaCPgBack0
section
namespace Go.Proofs.Yteokjmjfjdgmpaa
open Go.RowKit Go.Gi Go.GiRow
set_option maxRecDepth 20000
set_option linter.unusedSimpArgs false
set_option linter.unusedVariables false
theorem size_al (w : World) (o : Obj) : (w.alloc o).heap.size = w.heap.size + 1 := by simp
theorem size_sr (w : World) (g : Nat) (cs : Array Value) : (w.setRow g cs).heap.size = w.heap.size := by simp [World.setRow]
theorem blk_setRow_far {w : World} {g T b : Nat} {cs : Array Value} (hb : Blk w g T cs) (cs' : Array Value) (h : g ≠ b) : Blk (w.setRow b cs') g T cs := (setRow_other w b g cs' h).trans hb
theorem own_sl {w : World} {base n : Nat} {e : TypeId} {size : Nat} {v : Value} {xs : List Value} (h : w.ownsRow base e size v n xs) : ∃ A c, v = .slice A n c := by
  rcases h.2 with ⟨rfl, rfl⟩ | ⟨g, cap, cur, rfl, _⟩
  · exact ⟨none, 0, rfl⟩
  · exact ⟨_, cap, rfl⟩
theorem own_le {w : World} {base base' n : Nat} {e : TypeId} {size : Nat} {v : Value} {xs : List Value} (h : w.ownsRow base e size v n xs) (hb : base' ≤ base) : w.ownsRow base' e size v n xs :=
  ⟨h.1, h.2.imp id fun ⟨g, cap, cur, e, h1, h2⟩ => ⟨g, cap, cur, e, Nat.le_trans hb h1, h2⟩⟩
theorem opCells {w : World} {g T : Nat} {k a : Int} {s o : ByteArray} (h : Blk w g T #[.int .i64 k, .int .i64 a, .string s, .string o]) : w.cell? ⟨g, 0, none⟩ = some (.int .i64 k) ∧ w.cell? ⟨g, 1, none⟩ = some (.int .i64 a) ∧ w.cell? ⟨g, 2, none⟩ = some (.string s) ∧ w.cell? ⟨g, 3, none⟩ = some (.string o) :=
  ⟨h.cell 0, h.cell 1, h.cell 2, h.cell 3⟩
theorem own_rdrows {w : World} {base : Nat} {A : Option Addr} {c : Nat} {l : List ByteArray} (h : w.ownsRow base 9 1 (.slice A l.length c) l.length (strV l)) : RdRows strC 1 w A l := fun k hk => by
  rcases h.2 with ⟨e, h0⟩ | ⟨g, cap, cur, e, hb, hh, _⟩
  · omega
  · injection e with e1 e2 e3
    subst e1
    refine ⟨g, 0, rfl, (Array.getElem?_eq_some_iff.1 hh).1, fun j u hu => ?_⟩
    have hj : j = 0 := by
      have := (List.getElem?_eq_some_iff.1 hu).1
      simpa [strC] using this
    subst hj
    subst e3
    have h1 := h.cellAt k (by omega)
    rw [Nat.zero_add, Nat.mul_one, Nat.add_zero, h1]
    simpa [strV, strC, List.getElem?_eq_getElem hk] using hu
def finR (num l KD : Int) (HD : ByteArray) (SL : List ByteArray) : Int × Int × Int × ByteArray × List ByteArray × Int :=
  if (485 : Int) - HD.size - slotsN SL < 0 then (0, 0, 0, ⟨#[]⟩, [], 30) else (num, l, KD, HD, SL, 0)
def apPost (w : World) (R : Int × Int × Int × ByteArray × List ByteArray × Int) : Ending → World → Prop := fun e w' =>
  ∃ v, e = .returned (.tuple #[.agg #[.int .u32 R.1, .int .u64 R.2.1, .int .i64 R.2.2.1, .string R.2.2.2.1, v], .int .i64 R.2.2.2.2.2]) ∧ w'.ownsRow w.heap.size 9 1 v R.2.2.2.2.1.length (strV R.2.2.2.2.1) ∧ Below w.heap.size w w'
theorem own_some {w : World} {base n c : Nat} {e : TypeId} {size : Nat} {A : Option Addr} {xs : List Value} (h : w.ownsRow base e size (.slice A n c) n xs) (hn : 0 < n) : ∃ g, A = some ⟨g, 0, none⟩ := by
  rcases h.2 with ⟨e, h0⟩ | ⟨g, cap, cur, e, _⟩
  · omega
  · injection e with e1
    exact ⟨g, e1⟩
theorem strV_at (l : List ByteArray) (i : Nat) (h : i < l.length) : (strV l)[i]? = some (.string l[i]) := by simp [strV, List.getElem?_eq_getElem h]
theorem strV_set (l : List ByteArray) (i : Nat) (s : ByteArray) : (strV l).set i (.string s) = strV (l.set i s) := by simp [strV, List.map_set]
theorem own_ne_new {w : World} {base n : Nat} {e : TypeId} {size : Nat} {v : Value} {xs : List Value} (h : w.ownsRow base e size v n xs) : v.ownBlock ≠ some w.heap.size := fun e => Nat.lt_irrefl _ (h.lt _ e).2
def opEs (k a : Int) (s o : ByteArray) : Int := opE k a s.data.toList o.data.toList
theorem pcheck_str (k a : Int) (s o : ByteArray) (w : World) :
    Calls Try.prog 47 #[.agg #[.int .i64 k, .int .i64 a, .string s, .string o]] w fun e w' => e = .returned (.int .i64 (opEs k a s o)) ∧ Below w.heap.size w w' := by
  have := pcheck_any k a s.data.toList o.data.toList w
  rwa [bs_toList, bs_toList] at this
set_option maxHeartbeats 3000000 in
theorem apply_bad (num lsn kind : Int) (head : ByteArray) (slots : List ByteArray) (AA : Option Addr) (cc : Nat) (k a : Int) (s o : ByteArray) (l : Int) (w : World) (hA : RdRows strC 1 w AA slots) (h64 : slots.length ≤ 64) (hE : opEs k a s o = 33) (hS : True) :
    Calls Try.prog 23 #[.agg #[.int .u32 num, .int .u64 lsn, .int .i64 kind, .string head, .slice AA slots.length cc], .agg #[.int .i64 k, .int .i64 a, .string s, .string o], .int .u64 l] w (apPost w (0, 0, 0, ⟨#[]⟩, [], 33)) := by
  have HA := Lib.hid hA
  have HL := Lib.hid h64
  have HS := Lib.hid hS
  have HE := Lib.hid hE
  clear hA h64 hS hE
  go_enter Try.func23, Try.ntmps23
  go_upto_region 1 with fail
  have hP : Blk (((w.alloc (.cells #[.int .u32 num, .int .u64 lsn, .int .i64 kind, .string head, .slice AA slots.length cc] 28)).alloc (.cells #[.int .i64 k, .int .i64 a, .string s, .string o] 54)).alloc (.cells #[.int .u32 0, .int .u64 0, .int .i64 0, .string ⟨#[]⟩, .slice none 0 0] 28)) w.heap.size 28 #[.int .u32 num, .int .u64 lsn, .int .i64 kind, .string head, .slice AA slots.length cc] := ((Blk.new w 28 #[.int .u32 num, .int .u64 lsn, .int .i64 kind, .string head, .slice AA slots.length cc]).alloc _).alloc _
  have hO : Blk (((w.alloc (.cells #[.int .u32 num, .int .u64 lsn, .int .i64 kind, .string head, .slice AA slots.length cc] 28)).alloc (.cells #[.int .i64 k, .int .i64 a, .string s, .string o] 54)).alloc (.cells #[.int .u32 0, .int .u64 0, .int .i64 0, .string ⟨#[]⟩, .slice none 0 0] 28)) (w.heap.size + 1) 54 #[.int .i64 k, .int .i64 a, .string s, .string o] := by
    have := (Blk.new (w.alloc (.cells #[.int .u32 num, .int .u64 lsn, .int .i64 kind, .string head, .slice AA slots.length cc] 28)) 54 #[.int .i64 k, .int .i64 a, .string s, .string o]).alloc (.cells #[.int .u32 0, .int .u64 0, .int .i64 0, .string ⟨#[]⟩, .slice none 0 0] 28)
    rwa [size_al] at this
  have hZ : Blk (((w.alloc (.cells #[.int .u32 num, .int .u64 lsn, .int .i64 kind, .string head, .slice AA slots.length cc] 28)).alloc (.cells #[.int .i64 k, .int .i64 a, .string s, .string o] 54)).alloc (.cells #[.int .u32 0, .int .u64 0, .int .i64 0, .string ⟨#[]⟩, .slice none 0 0] 28)) (w.heap.size + 2) 28 #[.int .u32 0, .int .u64 0, .int .i64 0, .string ⟨#[]⟩, .slice none 0 0] := by
    have := Blk.new ((w.alloc (.cells #[.int .u32 num, .int .u64 lsn, .int .i64 kind, .string head, .slice AA slots.length cc] 28)).alloc (.cells #[.int .i64 k, .int .i64 a, .string s, .string o] 54)) 28 #[.int .u32 0, .int .u64 0, .int .i64 0, .string ⟨#[]⟩, .slice none 0 0]
    rwa [size_al, size_al] at this
  have hK := balloc (balloc (balloc (Below.refl w.heap.size w) (.cells #[.int .u32 num, .int .u64 lsn, .int .i64 kind, .string head, .slice AA slots.length cc] 28)) (.cells #[.int .i64 k, .int .i64 a, .string s, .string o] 54)) (.cells #[.int .u32 0, .int .u64 0, .int .i64 0, .string ⟨#[]⟩, .slice none 0 0] 28)
  have hN : w.heap.size + 3 ≤ (((w.alloc (.cells #[.int .u32 num, .int .u64 lsn, .int .i64 kind, .string head, .slice AA slots.length cc] 28)).alloc (.cells #[.int .i64 k, .int .i64 a, .string s, .string o] 54)).alloc (.cells #[.int .u32 0, .int .u64 0, .int .i64 0, .string ⟨#[]⟩, .slice none 0 0] 28)).heap.size := by rw [size_al, size_al, size_al]; omega
  have HP := Lib.hid hP
  have HO := Lib.hid hO
  have HZ := Lib.hid hZ
  have HK := Lib.hid hK
  have HN := Lib.hid hN
  clear hP hO hZ hK hN
  generalize ((w.alloc (.cells #[.int .u32 num, .int .u64 lsn, .int .i64 kind, .string head, .slice AA slots.length cc] 28)).alloc (.cells #[.int .i64 k, .int .i64 a, .string s, .string o] 54)).alloc (.cells #[.int .u32 0, .int .u64 0, .int .i64 0, .string ⟨#[]⟩, .slice none 0 0] 28) = w0 at *
  go_wp2_with (first | (refine wpList_load_row rfl 28 (.tmp 3) rfl w.heap.size rfl 28 #[.int .u32 num, .int .u64 lsn, .int .i64 kind, .string head, .slice AA slots.length cc] (0, 0) _ HP.out Try.underlying28 rfl (by kernel_rfl) ?_) | (refine wpList_load_row rfl 54 (.tmp 4) rfl (w.heap.size + 1) rfl 54 #[.int .i64 k, .int .i64 a, .string s, .string o] (0, 0) _ HO.out Try.underlying54 rfl (by kernel_rfl) ?_) | (go_at_call 47; refine (pcheck_str k a s o _).mono ?_; rintro e w1 ⟨rfl, hb1⟩; rw [HE.out]; have HP1 := Lib.hid (HP.out.step hb1); have HO1 := Lib.hid (HO.out.step hb1); have HZ1 := Lib.hid (HZ.out.step hb1); have HK1 := Lib.hid (bstep HK.out hb1); have HN1 := Lib.hid (Nat.le_trans HN.out hb1.size); clear HN HK HP HO HZ; have HP := HP1; clear HP1; have HO := HO1; clear HO1; have HZ := HZ1; clear HZ1; have HK := HK1; clear HK1; have HN := HN1; clear HN1; clear hb1) | (refine wpList_store_row rfl 28 (.tmp 6) (.tmp 16) rfl (w.heap.size + 2) #[.int .u32 0, .int .u64 0, .int .i64 0, .string ⟨#[]⟩, .slice none 0 0] rfl rfl 28 #[.int .u32 0, .int .u64 0, .int .i64 0, .string ⟨#[]⟩, .slice none 0 0] HZ.out (by kernel_rfl) rfl (by simp [Value.oneCell']) ?_))
  refine bodyPost_ret (v := .tuple #[.agg #[.int .u32 0, .int .u64 0, .int .i64 0, .string ⟨#[]⟩, .slice none 0 0], .int .i64 33]) (by exact results_ct (p := 6) (q := 7) rfl _ _ (w.heap.size + 2) 28 #[.int .u32 0, .int .u64 0, .int .i64 0, .string ⟨#[]⟩, .slice none 0 0] (0, 0) _ rfl (blk_setRow HZ.out) Try.underlying28 rfl (by kernel_rfl)) rfl ?_
  exact ⟨_, rfl, World.ownsRow_nil _ _ _ _, setRow_below HK.out (by omega) _⟩
set_option maxHeartbeats 3000000 in
theorem apply_st (num lsn kind : Int) (head : ByteArray) (slots : List ByteArray) (AA : Option Addr) (cc : Nat) (k a : Int) (s o : ByteArray) (l : Int) (w : World) (hA : RdRows strC 1 w AA slots) (h64 : slots.length ≤ 64) (es : Int) (hes : es ≠ 0) (hE : opEs k a s o = 0) (hS : ∀ w', Below w.heap.size w w' → Calls Try.prog 48 #[.agg #[.int .u32 num, .int .u64 lsn, .int .i64 kind, .string head, .slice AA slots.length cc], .agg #[.int .i64 k, .int .i64 a, .string s, .string o]] w' fun e w'' => e = .returned (.int .i64 es) ∧ Below w'.heap.size w' w'') :
    Calls Try.prog 23 #[.agg #[.int .u32 num, .int .u64 lsn, .int .i64 kind, .string head, .slice AA slots.length cc], .agg #[.int .i64 k, .int .i64 a, .string s, .string o], .int .u64 l] w (apPost w (0, 0, 0, ⟨#[]⟩, [], es)) := by
  have d0 : decide (es = 0) = false := by simpa using hes
  have HA := Lib.hid hA
  have HL := Lib.hid h64
  have HS := Lib.hid hS
  have HE := Lib.hid hE
  clear hA h64 hS hE
  go_enter Try.func23, Try.ntmps23
  go_upto_region 1 with fail
  have hP : Blk (((w.alloc (.cells #[.int .u32 num, .int .u64 lsn, .int .i64 kind, .string head, .slice AA slots.length cc] 28)).alloc (.cells #[.int .i64 k, .int .i64 a, .string s, .string o] 54)).alloc (.cells #[.int .u32 0, .int .u64 0, .int .i64 0, .string ⟨#[]⟩, .slice none 0 0] 28)) w.heap.size 28 #[.int .u32 num, .int .u64 lsn, .int .i64 kind, .string head, .slice AA slots.length cc] := ((Blk.new w 28 #[.int .u32 num, .int .u64 lsn, .int .i64 kind, .string head, .slice AA slots.length cc]).alloc _).alloc _
  have hO : Blk (((w.alloc (.cells #[.int .u32 num, .int .u64 lsn, .int .i64 kind, .string head, .slice AA slots.length cc] 28)).alloc (.cells #[.int .i64 k, .int .i64 a, .string s, .string o] 54)).alloc (.cells #[.int .u32 0, .int .u64 0, .int .i64 0, .string ⟨#[]⟩, .slice none 0 0] 28)) (w.heap.size + 1) 54 #[.int .i64 k, .int .i64 a, .string s, .string o] := by
    have := (Blk.new (w.alloc (.cells #[.int .u32 num, .int .u64 lsn, .int .i64 kind, .string head, .slice AA slots.length cc] 28)) 54 #[.int .i64 k, .int .i64 a, .string s, .string o]).alloc (.cells #[.int .u32 0, .int .u64 0, .int .i64 0, .string ⟨#[]⟩, .slice none 0 0] 28)
    rwa [size_al] at this
  have hZ : Blk (((w.alloc (.cells #[.int .u32 num, .int .u64 lsn, .int .i64 kind, .string head, .slice AA slots.length cc] 28)).alloc (.cells #[.int .i64 k, .int .i64 a, .string s, .string o] 54)).alloc (.cells #[.int .u32 0, .int .u64 0, .int .i64 0, .string ⟨#[]⟩, .slice none 0 0] 28)) (w.heap.size + 2) 28 #[.int .u32 0, .int .u64 0, .int .i64 0, .string ⟨#[]⟩, .slice none 0 0] := by
    have := Blk.new ((w.alloc (.cells #[.int .u32 num, .int .u64 lsn, .int .i64 kind, .string head, .slice AA slots.length cc] 28)).alloc (.cells #[.int .i64 k, .int .i64 a, .string s, .string o] 54)) 28 #[.int .u32 0, .int .u64 0, .int .i64 0, .string ⟨#[]⟩, .slice none 0 0]
    rwa [size_al, size_al] at this
  have hK := balloc (balloc (balloc (Below.refl w.heap.size w) (.cells #[.int .u32 num, .int .u64 lsn, .int .i64 kind, .string head, .slice AA slots.length cc] 28)) (.cells #[.int .i64 k, .int .i64 a, .string s, .string o] 54)) (.cells #[.int .u32 0, .int .u64 0, .int .i64 0, .string ⟨#[]⟩, .slice none 0 0] 28)
  have hN : w.heap.size + 3 ≤ (((w.alloc (.cells #[.int .u32 num, .int .u64 lsn, .int .i64 kind, .string head, .slice AA slots.length cc] 28)).alloc (.cells #[.int .i64 k, .int .i64 a, .string s, .string o] 54)).alloc (.cells #[.int .u32 0, .int .u64 0, .int .i64 0, .string ⟨#[]⟩, .slice none 0 0] 28)).heap.size := by rw [size_al, size_al, size_al]; omega
  have HP := Lib.hid hP
  have HO := Lib.hid hO
  have HZ := Lib.hid hZ
  have HK := Lib.hid hK
  have HN := Lib.hid hN
  clear hP hO hZ hK hN
  generalize ((w.alloc (.cells #[.int .u32 num, .int .u64 lsn, .int .i64 kind, .string head, .slice AA slots.length cc] 28)).alloc (.cells #[.int .i64 k, .int .i64 a, .string s, .string o] 54)).alloc (.cells #[.int .u32 0, .int .u64 0, .int .i64 0, .string ⟨#[]⟩, .slice none 0 0] 28) = w0 at *
  go_wp2_with (first | (refine wpList_load_row rfl 28 (.tmp 3) rfl w.heap.size rfl 28 #[.int .u32 num, .int .u64 lsn, .int .i64 kind, .string head, .slice AA slots.length cc] (0, 0) _ HP.out Try.underlying28 rfl (by kernel_rfl) ?_) | (refine wpList_load_row rfl 54 (.tmp 4) rfl (w.heap.size + 1) rfl 54 #[.int .i64 k, .int .i64 a, .string s, .string o] (0, 0) _ HO.out Try.underlying54 rfl (by kernel_rfl) ?_) | (go_at_call 47; refine (pcheck_str k a s o _).mono ?_; rintro e w1 ⟨rfl, hb1⟩; rw [HE.out]; have HP1 := Lib.hid (HP.out.step hb1); have HO1 := Lib.hid (HO.out.step hb1); have HZ1 := Lib.hid (HZ.out.step hb1); have HK1 := Lib.hid (bstep HK.out hb1); have HN1 := Lib.hid (Nat.le_trans HN.out hb1.size); clear HN HK HP HO HZ; have HP := HP1; clear HP1; have HO := HO1; clear HO1; have HZ := HZ1; clear HZ1; have HK := HK1; clear HK1; have HN := HN1; clear HN1; clear hb1) | (go_at_call 48; refine (HS.out _ HK.out).mono ?_; rintro e w1 ⟨rfl, hb1⟩; have HP1 := Lib.hid (HP.out.step hb1); have HO1 := Lib.hid (HO.out.step hb1); have HZ1 := Lib.hid (HZ.out.step hb1); have HK1 := Lib.hid (bstep HK.out hb1); have HN1 := Lib.hid (Nat.le_trans HN.out hb1.size); clear HN HK HP HO HZ; have HP := HP1; clear HP1; have HO := HO1; clear HO1; have HZ := HZ1; clear HZ1; have HK := HK1; clear HK1; have HN := HN1; clear HN1; clear hb1) | (refine wpList_store_row rfl 28 (.tmp 6) (.tmp 23) rfl (w.heap.size + 2) #[.int .u32 0, .int .u64 0, .int .i64 0, .string ⟨#[]⟩, .slice none 0 0] rfl rfl 28 #[.int .u32 0, .int .u64 0, .int .i64 0, .string ⟨#[]⟩, .slice none 0 0] HZ.out (by kernel_rfl) rfl (by simp [Value.oneCell']) ?_))
  refine bodyPost_ret (v := .tuple #[.agg #[.int .u32 0, .int .u64 0, .int .i64 0, .string ⟨#[]⟩, .slice none 0 0], .int .i64 es]) (by exact results_ct (p := 6) (q := 7) rfl _ _ (w.heap.size + 2) 28 #[.int .u32 0, .int .u64 0, .int .i64 0, .string ⟨#[]⟩, .slice none 0 0] (0, 0) _ rfl (blk_setRow HZ.out) Try.underlying28 rfl (by kernel_rfl)) rfl ?_
  exact ⟨_, rfl, World.ownsRow_nil _ _ _ _, setRow_below HK.out (by omega) _⟩
set_option maxHeartbeats 3000000 in
theorem apply_k1 (num lsn kind : Int) (head : ByteArray) (slots : List ByteArray) (AA : Option Addr) (cc : Nat) (a : Int) (s o : ByteArray) (l : Int) (w : World) (hA : RdRows strC 1 w AA slots) (h64 : slots.length ≤ 64) (hE : opEs 1 a s o = 0) (hS : ∀ w', Below w.heap.size w w' → Calls Try.prog 48 #[.agg #[.int .u32 num, .int .u64 lsn, .int .i64 kind, .string head, .slice AA slots.length cc], .agg #[.int .i64 1, .int .i64 a, .string s, .string o]] w' fun e w'' => e = .returned (.int .i64 0) ∧ Below w'.heap.size w' w'')  (hsz : ∀ x ∈ ([] : List ByteArray), x.size ≤ 140737488351232) (hhz : (s).size ≤ 140737488351232) :
    Calls Try.prog 23 #[.agg #[.int .u32 num, .int .u64 lsn, .int .i64 kind, .string head, .slice AA slots.length cc], .agg #[.int .i64 1, .int .i64 a, .string s, .string o], .int .u64 l] w (apPost w (finR num l (a) (s) (([] : List ByteArray)))) := by
  have HSZ := Lib.hid hsz
  have HHZ := Lib.hid hhz
  clear hsz hhz
  have HA := Lib.hid hA
  have HL := Lib.hid h64
  have HS := Lib.hid hS
  have HE := Lib.hid hE
  clear hA h64 hS hE
  go_enter Try.func23, Try.ntmps23
  go_upto_region 1 with fail
  have hP : Blk (((w.alloc (.cells #[.int .u32 num, .int .u64 lsn, .int .i64 kind, .string head, .slice AA slots.length cc] 28)).alloc (.cells #[.int .i64 1, .int .i64 a, .string s, .string o] 54)).alloc (.cells #[.int .u32 0, .int .u64 0, .int .i64 0, .string ⟨#[]⟩, .slice none 0 0] 28)) w.heap.size 28 #[.int .u32 num, .int .u64 lsn, .int .i64 kind, .string head, .slice AA slots.length cc] := ((Blk.new w 28 #[.int .u32 num, .int .u64 lsn, .int .i64 kind, .string head, .slice AA slots.length cc]).alloc _).alloc _
  have hO : Blk (((w.alloc (.cells #[.int .u32 num, .int .u64 lsn, .int .i64 kind, .string head, .slice AA slots.length cc] 28)).alloc (.cells #[.int .i64 1, .int .i64 a, .string s, .string o] 54)).alloc (.cells #[.int .u32 0, .int .u64 0, .int .i64 0, .string ⟨#[]⟩, .slice none 0 0] 28)) (w.heap.size + 1) 54 #[.int .i64 1, .int .i64 a, .string s, .string o] := by
    have := (Blk.new (w.alloc (.cells #[.int .u32 num, .int .u64 lsn, .int .i64 kind, .string head, .slice AA slots.length cc] 28)) 54 #[.int .i64 1, .int .i64 a, .string s, .string o]).alloc (.cells #[.int .u32 0, .int .u64 0, .int .i64 0, .string ⟨#[]⟩, .slice none 0 0] 28)
    rwa [size_al] at this
  have hZ : Blk (((w.alloc (.cells #[.int .u32 num, .int .u64 lsn, .int .i64 kind, .string head, .slice AA slots.length cc] 28)).alloc (.cells #[.int .i64 1, .int .i64 a, .string s, .string o] 54)).alloc (.cells #[.int .u32 0, .int .u64 0, .int .i64 0, .string ⟨#[]⟩, .slice none 0 0] 28)) (w.heap.size + 2) 28 #[.int .u32 0, .int .u64 0, .int .i64 0, .string ⟨#[]⟩, .slice none 0 0] := by
    have := Blk.new ((w.alloc (.cells #[.int .u32 num, .int .u64 lsn, .int .i64 kind, .string head, .slice AA slots.length cc] 28)).alloc (.cells #[.int .i64 1, .int .i64 a, .string s, .string o] 54)) 28 #[.int .u32 0, .int .u64 0, .int .i64 0, .string ⟨#[]⟩, .slice none 0 0]
    rwa [size_al, size_al] at this
  have hK := balloc (balloc (balloc (Below.refl w.heap.size w) (.cells #[.int .u32 num, .int .u64 lsn, .int .i64 kind, .string head, .slice AA slots.length cc] 28)) (.cells #[.int .i64 1, .int .i64 a, .string s, .string o] 54)) (.cells #[.int .u32 0, .int .u64 0, .int .i64 0, .string ⟨#[]⟩, .slice none 0 0] 28)
  have hN : w.heap.size + 3 ≤ (((w.alloc (.cells #[.int .u32 num, .int .u64 lsn, .int .i64 kind, .string head, .slice AA slots.length cc] 28)).alloc (.cells #[.int .i64 1, .int .i64 a, .string s, .string o] 54)).alloc (.cells #[.int .u32 0, .int .u64 0, .int .i64 0, .string ⟨#[]⟩, .slice none 0 0] 28)).heap.size := by rw [size_al, size_al, size_al]; omega
  have HP := Lib.hid hP
  have HO := Lib.hid hO
  have HZ := Lib.hid hZ
  have HK := Lib.hid hK
  have HN := Lib.hid hN
  clear hP hO hZ hK hN
  generalize ((w.alloc (.cells #[.int .u32 num, .int .u64 lsn, .int .i64 kind, .string head, .slice AA slots.length cc] 28)).alloc (.cells #[.int .i64 1, .int .i64 a, .string s, .string o] 54)).alloc (.cells #[.int .u32 0, .int .u64 0, .int .i64 0, .string ⟨#[]⟩, .slice none 0 0] 28) = w0 at *
  go_upto_region 7 with (first | (refine wpList_load_row rfl 28 (.tmp 3) rfl w.heap.size rfl 28 #[.int .u32 num, .int .u64 lsn, .int .i64 kind, .string head, .slice AA slots.length cc] (0, 0) _ HP.out Try.underlying28 rfl (by kernel_rfl) ?_) | (refine wpList_load_row rfl 54 (.tmp 4) rfl (w.heap.size + 1) rfl 54 #[.int .i64 1, .int .i64 a, .string s, .string o] (0, 0) _ HO.out Try.underlying54 rfl (by kernel_rfl) ?_) | (go_at_call 47; refine (pcheck_str 1 a s o _).mono ?_; rintro e w1 ⟨rfl, hb1⟩; rw [HE.out]; have HP1 := Lib.hid (HP.out.step hb1); have HO1 := Lib.hid (HO.out.step hb1); have HZ1 := Lib.hid (HZ.out.step hb1); have HK1 := Lib.hid (bstep HK.out hb1); have HN1 := Lib.hid (Nat.le_trans HN.out hb1.size); clear HN HK HP HO HZ; have HP := HP1; clear HP1; have HO := HO1; clear HO1; have HZ := HZ1; clear HZ1; have HK := HK1; clear HK1; have HN := HN1; clear HN1; clear hb1) | (go_at_call 48; refine (HS.out _ HK.out).mono ?_; rintro e w1 ⟨rfl, hb1⟩; have HP1 := Lib.hid (HP.out.step hb1); have HO1 := Lib.hid (HO.out.step hb1); have HZ1 := Lib.hid (HZ.out.step hb1); have HK1 := Lib.hid (bstep HK.out hb1); have HN1 := Lib.hid (Nat.le_trans HN.out hb1.size); clear HN HK HP HO HZ; have HP := HP1; clear HP1; have HO := HO1; clear HO1; have HZ := HZ1; clear HZ1; have HK := HK1; clear HK1; have HN := HN1; clear HN1; clear hb1))
  go_upto_region 8 with (first | (refine wpList_load_row rfl 28 (.tmp 3) rfl w.heap.size rfl 28 #[.int .u32 num, .int .u64 lsn, .int .i64 kind, .string head, .slice AA slots.length cc] (0, 0) _ HP.out Try.underlying28 rfl (by kernel_rfl) ?_) | (refine wpList_store_row rfl 28 (.tmp 10) (.tmp 25) rfl w1.heap.size #[.int .u32 num, .int .u64 lsn, .int .i64 kind, .string head, .slice AA slots.length cc] rfl rfl 28 #[.int .u32 0, .int .u64 0, .int .i64 0, .string ⟨#[]⟩, .slice none 0 0] (Blk.new w1 28 #[.int .u32 0, .int .u64 0, .int .i64 0, .string ⟨#[]⟩, .slice none 0 0]) (by kernel_rfl) rfl (by simp [Value.oneCell']) ?_))
  have hX := blk_setRow (cs' := #[.int .u32 num, .int .u64 lsn, .int .i64 kind, .string head, .slice AA slots.length cc]) (Blk.new w1 28 #[.int .u32 0, .int .u64 0, .int .i64 0, .string ⟨#[]⟩, .slice none 0 0])
  have hK := setRow_below (balloc HK.out (.cells #[.int .u32 0, .int .u64 0, .int .i64 0, .string ⟨#[]⟩, .slice none 0 0] 28)) (g := w1.heap.size) HK.out.size #[.int .u32 num, .int .u64 lsn, .int .i64 kind, .string head, .slice AA slots.length cc]
  have hP := blk_setRow_far (HP.out.alloc (.cells #[.int .u32 0, .int .u64 0, .int .i64 0, .string ⟨#[]⟩, .slice none 0 0] 28)) (b := w1.heap.size) #[.int .u32 num, .int .u64 lsn, .int .i64 kind, .string head, .slice AA slots.length cc] (by have := HN.out; omega)
  have hO := blk_setRow_far (HO.out.alloc (.cells #[.int .u32 0, .int .u64 0, .int .i64 0, .string ⟨#[]⟩, .slice none 0 0] 28)) (b := w1.heap.size) #[.int .u32 num, .int .u64 lsn, .int .i64 kind, .string head, .slice AA slots.length cc] (by have := HN.out; omega)
  have hZ := blk_setRow_far (HZ.out.alloc (.cells #[.int .u32 0, .int .u64 0, .int .i64 0, .string ⟨#[]⟩, .slice none 0 0] 28)) (b := w1.heap.size) #[.int .u32 num, .int .u64 lsn, .int .i64 kind, .string head, .slice AA slots.length cc] (by have := HN.out; omega)
  have hN : w1.heap.size + 1 ≤ ((w1.alloc (.cells #[.int .u32 0, .int .u64 0, .int .i64 0, .string ⟨#[]⟩, .slice none 0 0] 28)).setRow w1.heap.size #[.int .u32 num, .int .u64 lsn, .int .i64 kind, .string head, .slice AA slots.length cc]).heap.size := by rw [size_sr, size_al]; omega
  have hN0 := HN.out
  clear HP HO HZ HK HN
  obtain ⟨x0, hx0⟩ : ∃ x, x = w1.heap.size := ⟨_, rfl⟩
  rw [← hx0] at hX hP hO hZ hK hN hN0
  simp only [← hx0]
  have hcl := clone_any (A := AA) (l := slots) cc (rows_bl1 HA.out hK) (by have := HL.out; omega)
  generalize ((w1.alloc (.cells #[.int .u32 0, .int .u64 0, .int .i64 0, .string ⟨#[]⟩, .slice none 0 0] 28)).setRow x0 #[.int .u32 num, .int .u64 lsn, .int .i64 kind, .string head, .slice AA slots.length cc]) = w2 at *
  have HX := Lib.hid hX
  have HP := Lib.hid hP
  have HO := Lib.hid hO
  have HZ := Lib.hid hZ
  have HK := Lib.hid hK
  have HN := Lib.hid hN
  have HN0 := Lib.hid hN0
  have HC := Lib.hid hcl
  have c4 := (pgCells hP).2.2.2.2
  clear hX hP hO hZ hK hN hN0 hcl hx0
  go_upto_region 9 with (go_at_call 49; refine HC.out.mono ?_; rintro e w3 ⟨v, rfl, ho1, hb1⟩; obtain ⟨AV, cv, rfl⟩ := own_sl ho1; have ho1 := own_le ho1 HK.out.size; have HP1 := Lib.hid (HP.out.step hb1); have HO1 := Lib.hid (HO.out.step hb1); have HZ1 := Lib.hid (HZ.out.step hb1); have HX1 := Lib.hid (HX.out.step hb1); have HK1 := Lib.hid (bstep HK.out hb1); have HN1 := Lib.hid (Nat.le_trans HN.out hb1.size); clear HN HK HP HO HZ HX; have HP := HP1; clear HP1; have HO := HO1; clear HO1; have HZ := HZ1; clear HZ1; have HX := HX1; clear HX1; have HK := HK1; clear HK1; have HN := HN1; clear HN1; have HR := Lib.hid ho1; have HB0 := Lib.hid HN0.out; clear hb1 ho1 HC c4; obtain ⟨cx0, cx1, cx2, cx3, cx4⟩ := pgCells HX.out; have fx1 := HX.out.frozen 1; have fx4 := HX.out.frozen 4)
  have hX : Blk ((w3.setCell ⟨x0, 4, none⟩ (.slice AV slots.length cv)).setCell ⟨x0, 1, none⟩ (.int .u64 l)) x0 28 #[.int .u32 num, .int .u64 l, .int .i64 kind, .string head, .slice AV slots.length cv] := (HX.out.set_ 4 (.slice AV slots.length cv)).set_ 1 (.int .u64 l)
  have hP := (HP.out.far (p := ⟨x0, 4, none⟩) (by have := HB0.out; show _ ≠ x0; omega) (.slice AV slots.length cv)).far (p := ⟨x0, 1, none⟩) (by have := HB0.out; show _ ≠ x0; omega) (.int .u64 l)
  have hO := (HO.out.far (p := ⟨x0, 4, none⟩) (by have := HB0.out; show _ ≠ x0; omega) (.slice AV slots.length cv)).far (p := ⟨x0, 1, none⟩) (by have := HB0.out; show _ ≠ x0; omega) (.int .u64 l)
  have hZ := (HZ.out.far (p := ⟨x0, 4, none⟩) (by have := HB0.out; show _ ≠ x0; omega) (.slice AV slots.length cv)).far (p := ⟨x0, 1, none⟩) (by have := HB0.out; show _ ≠ x0; omega) (.int .u64 l)
  have hR := own_set (b := x0) (o := 1) (u := .int .u64 l) (own_set (b := x0) (o := 4) (u := .slice AV slots.length cv) HR.out HX.out (by decide)) (HX.out.set_ 4 _) (by decide)
  have hK := bsetAt (o := 1) (bsetAt (o := 4) HK.out (b := x0) (by have := HB0.out; omega) (.slice AV slots.length cv)) (b := x0) (by have := HB0.out; omega) (.int .u64 l)
  have hN : x0 + 1 ≤ ((w3.setCell ⟨x0, 4, none⟩ (.slice AV slots.length cv)).setCell ⟨x0, 1, none⟩ (.int .u64 l)).heap.size := by simpa using HN.out
  clear HX HP HO HZ HR HK HN HA HS HE cx0 cx1 cx2 cx3 cx4 fx1 fx4
  generalize (w3.setCell ⟨x0, 4, none⟩ (.slice AV slots.length cv)).setCell ⟨x0, 1, none⟩ (.int .u64 l) = w4 at *
  have HX := Lib.hid hX
  have HP := Lib.hid hP
  have HO := Lib.hid hO
  have HZ := Lib.hid hZ
  have HR := Lib.hid hR
  have HK := Lib.hid hK
  have HN := Lib.hid hN
  obtain ⟨co0, co1, co2, co3⟩ := opCells hO
  obtain ⟨cx0, cx1, cx2, cx3, cx4⟩ := pgCells hX
  clear hX hP hO hZ hR hK hN
  have H64 : Hid (([] : List ByteArray).length ≤ 64) := Lib.hid (by simp)
  obtain ⟨cp0, cp1, cp2, cp3, cp4⟩ := pgCells HP.out
  go_upto_region 25 with (refine wpList_store_row rfl 28 (.tmp 10) (.tmp 43) rfl x0 #[.int .u32 num, .int .u64 l, .int .i64 a, .string s, .slice none 0 0] rfl rfl 28 #[.int .u32 num, .int .u64 l, .int .i64 kind, .string head, .slice AV slots.length cv] HX.out (by kernel_rfl) rfl (by simp [Value.oneCell']) ?_)
  have hX := blk_setRow (cs' := #[.int .u32 num, .int .u64 l, .int .i64 a, .string s, .slice none 0 0]) HX.out
  have hZ := blk_setRow_far HZ.out (b := x0) #[.int .u32 num, .int .u64 l, .int .i64 a, .string s, .slice none 0 0] (by have := HB0.out; omega)
  have hK := setRow_below HK.out (g := x0) (by have := HB0.out; omega) #[.int .u32 num, .int .u64 l, .int .i64 a, .string s, .slice none 0 0]
  clear HX HZ HK HR HP HO HN HN0 co0 co1 co2 co3 cx0 cx1 cx2 cx3 cx4 cp0 cp1 cp2 cp3 cp4
  generalize w4.setRow x0 #[.int .u32 num, .int .u64 l, .int .i64 a, .string s, .slice none 0 0] = w5 at *
  have HX := Lib.hid hX
  have HZ := Lib.hid hZ
  have HK := Lib.hid hK
  have HR := Lib.hid (World.ownsRow_nil w5 w.heap.size 9 1)
  clear hX hZ hK
  have hrm := room_any num l a s ([] : List ByteArray) none 0 w5 (own_rdrows HR.out) H64.out HSZ.out HHZ.out
  have HRm := Lib.hid hrm
  clear hrm
  have hf1 : (485 : Int) - (s).size - slotsN (([] : List ByteArray)) < 0 → finR num l (a) (s) (([] : List ByteArray)) = (0, 0, 0, ⟨#[]⟩, [], 30) := fun h => if_pos h
  have hf2 : ¬ (485 : Int) - (s).size - slotsN (([] : List ByteArray)) < 0 → finR num l (a) (s) (([] : List ByteArray)) = (num, l, a, s, ([] : List ByteArray), 0) := fun h => if_neg h
  have HF1 := Lib.hid hf1
  have HF2 := Lib.hid hf2
  clear hf1 hf2
  generalize hrm : (485 : Int) - (s).size - slotsN (([] : List ByteArray)) = rm at *
  by_cases hr : rm < 0
  · have d5 : decide (rm < 0) = true := by simpa using hr
    go_wp2_with (first | (refine wpList_load_row rfl 28 (.tmp 10) rfl x0 rfl 28 #[.int .u32 num, .int .u64 l, .int .i64 a, .string s, .slice none ([] : List ByteArray).length 0] (0, 0) _ HX.out Try.underlying28 rfl (by kernel_rfl) ?_) | (go_at_call 14; refine HRm.out.mono ?_; rintro e w9 ⟨rfl, hb9⟩; have HX1 := Lib.hid (HX.out.step hb9); have HZ1 := Lib.hid (HZ.out.step hb9); have HR1 := Lib.hid (own_below HR.out hb9); have HK1 := Lib.hid (bstep HK.out hb9); clear HX HZ HR HK hb9; have HX := HX1; have HZ := HZ1; have HR := HR1; have HK := HK1; clear HX1 HZ1 HR1 HK1) | (refine wpList_store_row rfl 28 (.tmp 6) (.tmp 119) rfl (w.heap.size + 2) #[.int .u32 0, .int .u64 0, .int .i64 0, .string ⟨#[]⟩, .slice none 0 0] rfl rfl 28 #[.int .u32 0, .int .u64 0, .int .i64 0, .string ⟨#[]⟩, .slice none 0 0] HZ.out (by kernel_rfl) rfl (by simp [Value.oneCell']) ?_))
    refine bodyPost_ret (v := .tuple #[.agg #[.int .u32 0, .int .u64 0, .int .i64 0, .string ⟨#[]⟩, .slice none 0 0], .int .i64 30]) (by exact results_ct (p := 6) (q := 7) rfl _ _ (w.heap.size + 2) 28 #[.int .u32 0, .int .u64 0, .int .i64 0, .string ⟨#[]⟩, .slice none 0 0] (0, 0) _ rfl (blk_setRow HZ.out) Try.underlying28 rfl (by kernel_rfl)) rfl ?_
    rw [HF1.out hr]
    exact ⟨_, rfl, World.ownsRow_nil _ _ _ _, setRow_below HK.out (by omega) _⟩
  · have d5 : decide (rm < 0) = false := by simpa using hr
    go_wp2_with (first | (refine wpList_load_row rfl 28 (.tmp 10) rfl x0 rfl 28 #[.int .u32 num, .int .u64 l, .int .i64 a, .string s, .slice none ([] : List ByteArray).length 0] (0, 0) _ HX.out Try.underlying28 rfl (by kernel_rfl) ?_) | (go_at_call 14; refine HRm.out.mono ?_; rintro e w9 ⟨rfl, hb9⟩; have HX1 := Lib.hid (HX.out.step hb9); have HZ1 := Lib.hid (HZ.out.step hb9); have HR1 := Lib.hid (own_below HR.out hb9); have HK1 := Lib.hid (bstep HK.out hb9); clear HX HZ HR HK hb9; have HX := HX1; have HZ := HZ1; have HR := HR1; have HK := HK1; clear HX1 HZ1 HR1 HK1) | (refine wpList_store_row rfl 28 (.tmp 6) (.tmp 120) rfl (w.heap.size + 2) #[.int .u32 num, .int .u64 l, .int .i64 a, .string s, .slice none ([] : List ByteArray).length 0] rfl rfl 28 #[.int .u32 0, .int .u64 0, .int .i64 0, .string ⟨#[]⟩, .slice none 0 0] HZ.out (by kernel_rfl) rfl (by simp [Value.oneCell']) ?_))
    refine bodyPost_ret (v := .tuple #[.agg #[.int .u32 num, .int .u64 l, .int .i64 a, .string s, .slice none ([] : List ByteArray).length 0], .int .i64 0]) (by exact results_ct (p := 6) (q := 7) rfl _ _ (w.heap.size + 2) 28 #[.int .u32 num, .int .u64 l, .int .i64 a, .string s, .slice none ([] : List ByteArray).length 0] (0, 0) _ rfl (blk_setRow HZ.out) Try.underlying28 rfl (by kernel_rfl)) rfl ?_
    rw [HF2.out hr]
    exact ⟨_, rfl, own_setRow HR.out HZ.out (by decide), setRow_below HK.out (by omega) _⟩
set_option maxHeartbeats 3000000 in
theorem apply_k2 (num lsn kind : Int) (head : ByteArray) (slots : List ByteArray) (AA : Option Addr) (cc : Nat) (i : Nat) (s o : ByteArray) (l : Int) (w : World) (hA : RdRows strC 1 w AA slots) (h64 : slots.length ≤ 64) (hE : opEs 2 i s o = 0) (hS : ∀ w', Below w.heap.size w w' → Calls Try.prog 48 #[.agg #[.int .u32 num, .int .u64 lsn, .int .i64 kind, .string head, .slice AA slots.length cc], .agg #[.int .i64 2, .int .i64 (i : Int), .string s, .string o]] w' fun e w'' => e = .returned (.int .i64 0) ∧ Below w'.heap.size w' w'') (hi : i ≤ slots.length) (hlt : slots.length < 64) (hsz : ∀ x ∈ insL slots i s, x.size ≤ 140737488351232) (hhz : (head).size ≤ 140737488351232) :
    Calls Try.prog 23 #[.agg #[.int .u32 num, .int .u64 lsn, .int .i64 kind, .string head, .slice AA slots.length cc], .agg #[.int .i64 2, .int .i64 (i : Int), .string s, .string o], .int .u64 l] w (apPost w (finR num l (kind) (head) (insL slots i s))) := by
  have HI := Lib.hid hi
  have HLt := Lib.hid hlt
  clear hi hlt
  have HSZ := Lib.hid hsz
  have HHZ := Lib.hid hhz
  clear hsz hhz
  have HA := Lib.hid hA
  have HL := Lib.hid h64
  have HS := Lib.hid hS
  have HE := Lib.hid hE
  clear hA h64 hS hE
  go_enter Try.func23, Try.ntmps23
  go_upto_region 1 with fail
  have hP : Blk (((w.alloc (.cells #[.int .u32 num, .int .u64 lsn, .int .i64 kind, .string head, .slice AA slots.length cc] 28)).alloc (.cells #[.int .i64 2, .int .i64 (i : Int), .string s, .string o] 54)).alloc (.cells #[.int .u32 0, .int .u64 0, .int .i64 0, .string ⟨#[]⟩, .slice none 0 0] 28)) w.heap.size 28 #[.int .u32 num, .int .u64 lsn, .int .i64 kind, .string head, .slice AA slots.length cc] := ((Blk.new w 28 #[.int .u32 num, .int .u64 lsn, .int .i64 kind, .string head, .slice AA slots.length cc]).alloc _).alloc _
  have hO : Blk (((w.alloc (.cells #[.int .u32 num, .int .u64 lsn, .int .i64 kind, .string head, .slice AA slots.length cc] 28)).alloc (.cells #[.int .i64 2, .int .i64 (i : Int), .string s, .string o] 54)).alloc (.cells #[.int .u32 0, .int .u64 0, .int .i64 0, .string ⟨#[]⟩, .slice none 0 0] 28)) (w.heap.size + 1) 54 #[.int .i64 2, .int .i64 (i : Int), .string s, .string o] := by
    have := (Blk.new (w.alloc (.cells #[.int .u32 num, .int .u64 lsn, .int .i64 kind, .string head, .slice AA slots.length cc] 28)) 54 #[.int .i64 2, .int .i64 (i : Int), .string s, .string o]).alloc (.cells #[.int .u32 0, .int .u64 0, .int .i64 0, .string ⟨#[]⟩, .slice none 0 0] 28)
    rwa [size_al] at this
  have hZ : Blk (((w.alloc (.cells #[.int .u32 num, .int .u64 lsn, .int .i64 kind, .string head, .slice AA slots.length cc] 28)).alloc (.cells #[.int .i64 2, .int .i64 (i : Int), .string s, .string o] 54)).alloc (.cells #[.int .u32 0, .int .u64 0, .int .i64 0, .string ⟨#[]⟩, .slice none 0 0] 28)) (w.heap.size + 2) 28 #[.int .u32 0, .int .u64 0, .int .i64 0, .string ⟨#[]⟩, .slice none 0 0] := by
    have := Blk.new ((w.alloc (.cells #[.int .u32 num, .int .u64 lsn, .int .i64 kind, .string head, .slice AA slots.length cc] 28)).alloc (.cells #[.int .i64 2, .int .i64 (i : Int), .string s, .string o] 54)) 28 #[.int .u32 0, .int .u64 0, .int .i64 0, .string ⟨#[]⟩, .slice none 0 0]
    rwa [size_al, size_al] at this
  have hK := balloc (balloc (balloc (Below.refl w.heap.size w) (.cells #[.int .u32 num, .int .u64 lsn, .int .i64 kind, .string head, .slice AA slots.length cc] 28)) (.cells #[.int .i64 2, .int .i64 (i : Int), .string s, .string o] 54)) (.cells #[.int .u32 0, .int .u64 0, .int .i64 0, .string ⟨#[]⟩, .slice none 0 0] 28)
  have hN : w.heap.size + 3 ≤ (((w.alloc (.cells #[.int .u32 num, .int .u64 lsn, .int .i64 kind, .string head, .slice AA slots.length cc] 28)).alloc (.cells #[.int .i64 2, .int .i64 (i : Int), .string s, .string o] 54)).alloc (.cells #[.int .u32 0, .int .u64 0, .int .i64 0, .string ⟨#[]⟩, .slice none 0 0] 28)).heap.size := by rw [size_al, size_al, size_al]; omega
  have HP := Lib.hid hP
  have HO := Lib.hid hO
  have HZ := Lib.hid hZ
  have HK := Lib.hid hK
  have HN := Lib.hid hN
  clear hP hO hZ hK hN
  generalize ((w.alloc (.cells #[.int .u32 num, .int .u64 lsn, .int .i64 kind, .string head, .slice AA slots.length cc] 28)).alloc (.cells #[.int .i64 2, .int .i64 (i : Int), .string s, .string o] 54)).alloc (.cells #[.int .u32 0, .int .u64 0, .int .i64 0, .string ⟨#[]⟩, .slice none 0 0] 28) = w0 at *
  go_upto_region 7 with (first | (refine wpList_load_row rfl 28 (.tmp 3) rfl w.heap.size rfl 28 #[.int .u32 num, .int .u64 lsn, .int .i64 kind, .string head, .slice AA slots.length cc] (0, 0) _ HP.out Try.underlying28 rfl (by kernel_rfl) ?_) | (refine wpList_load_row rfl 54 (.tmp 4) rfl (w.heap.size + 1) rfl 54 #[.int .i64 2, .int .i64 (i : Int), .string s, .string o] (0, 0) _ HO.out Try.underlying54 rfl (by kernel_rfl) ?_) | (go_at_call 47; refine (pcheck_str 2 i s o _).mono ?_; rintro e w1 ⟨rfl, hb1⟩; rw [HE.out]; have HP1 := Lib.hid (HP.out.step hb1); have HO1 := Lib.hid (HO.out.step hb1); have HZ1 := Lib.hid (HZ.out.step hb1); have HK1 := Lib.hid (bstep HK.out hb1); have HN1 := Lib.hid (Nat.le_trans HN.out hb1.size); clear HN HK HP HO HZ; have HP := HP1; clear HP1; have HO := HO1; clear HO1; have HZ := HZ1; clear HZ1; have HK := HK1; clear HK1; have HN := HN1; clear HN1; clear hb1) | (go_at_call 48; refine (HS.out _ HK.out).mono ?_; rintro e w1 ⟨rfl, hb1⟩; have HP1 := Lib.hid (HP.out.step hb1); have HO1 := Lib.hid (HO.out.step hb1); have HZ1 := Lib.hid (HZ.out.step hb1); have HK1 := Lib.hid (bstep HK.out hb1); have HN1 := Lib.hid (Nat.le_trans HN.out hb1.size); clear HN HK HP HO HZ; have HP := HP1; clear HP1; have HO := HO1; clear HO1; have HZ := HZ1; clear HZ1; have HK := HK1; clear HK1; have HN := HN1; clear HN1; clear hb1))
  go_upto_region 8 with (first | (refine wpList_load_row rfl 28 (.tmp 3) rfl w.heap.size rfl 28 #[.int .u32 num, .int .u64 lsn, .int .i64 kind, .string head, .slice AA slots.length cc] (0, 0) _ HP.out Try.underlying28 rfl (by kernel_rfl) ?_) | (refine wpList_store_row rfl 28 (.tmp 10) (.tmp 25) rfl w1.heap.size #[.int .u32 num, .int .u64 lsn, .int .i64 kind, .string head, .slice AA slots.length cc] rfl rfl 28 #[.int .u32 0, .int .u64 0, .int .i64 0, .string ⟨#[]⟩, .slice none 0 0] (Blk.new w1 28 #[.int .u32 0, .int .u64 0, .int .i64 0, .string ⟨#[]⟩, .slice none 0 0]) (by kernel_rfl) rfl (by simp [Value.oneCell']) ?_))
  have hX := blk_setRow (cs' := #[.int .u32 num, .int .u64 lsn, .int .i64 kind, .string head, .slice AA slots.length cc]) (Blk.new w1 28 #[.int .u32 0, .int .u64 0, .int .i64 0, .string ⟨#[]⟩, .slice none 0 0])
  have hK := setRow_below (balloc HK.out (.cells #[.int .u32 0, .int .u64 0, .int .i64 0, .string ⟨#[]⟩, .slice none 0 0] 28)) (g := w1.heap.size) HK.out.size #[.int .u32 num, .int .u64 lsn, .int .i64 kind, .string head, .slice AA slots.length cc]
  have hP := blk_setRow_far (HP.out.alloc (.cells #[.int .u32 0, .int .u64 0, .int .i64 0, .string ⟨#[]⟩, .slice none 0 0] 28)) (b := w1.heap.size) #[.int .u32 num, .int .u64 lsn, .int .i64 kind, .string head, .slice AA slots.length cc] (by have := HN.out; omega)
  have hO := blk_setRow_far (HO.out.alloc (.cells #[.int .u32 0, .int .u64 0, .int .i64 0, .string ⟨#[]⟩, .slice none 0 0] 28)) (b := w1.heap.size) #[.int .u32 num, .int .u64 lsn, .int .i64 kind, .string head, .slice AA slots.length cc] (by have := HN.out; omega)
  have hZ := blk_setRow_far (HZ.out.alloc (.cells #[.int .u32 0, .int .u64 0, .int .i64 0, .string ⟨#[]⟩, .slice none 0 0] 28)) (b := w1.heap.size) #[.int .u32 num, .int .u64 lsn, .int .i64 kind, .string head, .slice AA slots.length cc] (by have := HN.out; omega)
  have hN : w1.heap.size + 1 ≤ ((w1.alloc (.cells #[.int .u32 0, .int .u64 0, .int .i64 0, .string ⟨#[]⟩, .slice none 0 0] 28)).setRow w1.heap.size #[.int .u32 num, .int .u64 lsn, .int .i64 kind, .string head, .slice AA slots.length cc]).heap.size := by rw [size_sr, size_al]; omega
  have hN0 := HN.out
  clear HP HO HZ HK HN
  obtain ⟨x0, hx0⟩ : ∃ x, x = w1.heap.size := ⟨_, rfl⟩
  rw [← hx0] at hX hP hO hZ hK hN hN0
  simp only [← hx0]
  have hcl := clone_any (A := AA) (l := slots) cc (rows_bl1 HA.out hK) (by have := HL.out; omega)
  generalize ((w1.alloc (.cells #[.int .u32 0, .int .u64 0, .int .i64 0, .string ⟨#[]⟩, .slice none 0 0] 28)).setRow x0 #[.int .u32 num, .int .u64 lsn, .int .i64 kind, .string head, .slice AA slots.length cc]) = w2 at *
  have HX := Lib.hid hX
  have HP := Lib.hid hP
  have HO := Lib.hid hO
  have HZ := Lib.hid hZ
  have HK := Lib.hid hK
  have HN := Lib.hid hN
  have HN0 := Lib.hid hN0
  have HC := Lib.hid hcl
  have c4 := (pgCells hP).2.2.2.2
  clear hX hP hO hZ hK hN hN0 hcl hx0
  go_upto_region 9 with (go_at_call 49; refine HC.out.mono ?_; rintro e w3 ⟨v, rfl, ho1, hb1⟩; obtain ⟨AV, cv, rfl⟩ := own_sl ho1; have ho1 := own_le ho1 HK.out.size; have HP1 := Lib.hid (HP.out.step hb1); have HO1 := Lib.hid (HO.out.step hb1); have HZ1 := Lib.hid (HZ.out.step hb1); have HX1 := Lib.hid (HX.out.step hb1); have HK1 := Lib.hid (bstep HK.out hb1); have HN1 := Lib.hid (Nat.le_trans HN.out hb1.size); clear HN HK HP HO HZ HX; have HP := HP1; clear HP1; have HO := HO1; clear HO1; have HZ := HZ1; clear HZ1; have HX := HX1; clear HX1; have HK := HK1; clear HK1; have HN := HN1; clear HN1; have HR := Lib.hid ho1; have HB0 := Lib.hid HN0.out; clear hb1 ho1 HC c4; obtain ⟨cx0, cx1, cx2, cx3, cx4⟩ := pgCells HX.out; have fx1 := HX.out.frozen 1; have fx4 := HX.out.frozen 4)
  have hX : Blk ((w3.setCell ⟨x0, 4, none⟩ (.slice AV slots.length cv)).setCell ⟨x0, 1, none⟩ (.int .u64 l)) x0 28 #[.int .u32 num, .int .u64 l, .int .i64 kind, .string head, .slice AV slots.length cv] := (HX.out.set_ 4 (.slice AV slots.length cv)).set_ 1 (.int .u64 l)
  have hP := (HP.out.far (p := ⟨x0, 4, none⟩) (by have := HB0.out; show _ ≠ x0; omega) (.slice AV slots.length cv)).far (p := ⟨x0, 1, none⟩) (by have := HB0.out; show _ ≠ x0; omega) (.int .u64 l)
  have hO := (HO.out.far (p := ⟨x0, 4, none⟩) (by have := HB0.out; show _ ≠ x0; omega) (.slice AV slots.length cv)).far (p := ⟨x0, 1, none⟩) (by have := HB0.out; show _ ≠ x0; omega) (.int .u64 l)
  have hZ := (HZ.out.far (p := ⟨x0, 4, none⟩) (by have := HB0.out; show _ ≠ x0; omega) (.slice AV slots.length cv)).far (p := ⟨x0, 1, none⟩) (by have := HB0.out; show _ ≠ x0; omega) (.int .u64 l)
  have hR := own_set (b := x0) (o := 1) (u := .int .u64 l) (own_set (b := x0) (o := 4) (u := .slice AV slots.length cv) HR.out HX.out (by decide)) (HX.out.set_ 4 _) (by decide)
  have hK := bsetAt (o := 1) (bsetAt (o := 4) HK.out (b := x0) (by have := HB0.out; omega) (.slice AV slots.length cv)) (b := x0) (by have := HB0.out; omega) (.int .u64 l)
  have hN : x0 + 1 ≤ ((w3.setCell ⟨x0, 4, none⟩ (.slice AV slots.length cv)).setCell ⟨x0, 1, none⟩ (.int .u64 l)).heap.size := by simpa using HN.out
  clear HX HP HO HZ HR HK HN HA HS HE cx0 cx1 cx2 cx3 cx4 fx1 fx4
  generalize (w3.setCell ⟨x0, 4, none⟩ (.slice AV slots.length cv)).setCell ⟨x0, 1, none⟩ (.int .u64 l) = w4 at *
  have HX := Lib.hid hX
  have HP := Lib.hid hP
  have HO := Lib.hid hO
  have HZ := Lib.hid hZ
  have HR := Lib.hid hR
  have HK := Lib.hid hK
  have HN := Lib.hid hN
  obtain ⟨co0, co1, co2, co3⟩ := opCells hO
  obtain ⟨cx0, cx1, cx2, cx3, cx4⟩ := pgCells hX
  clear hX hP hO hZ hR hK hN
  have H64 : Hid ((insL slots i s).length ≤ 64) := Lib.hid (by rw [insL_len _ _ _ HI.out]; exact HLt.out)
  go_upto_region 25 with (go_at_call 50; have HXa := Lib.hid (HX.out.alloc (.cells #[.string s] 9)); have HZa := Lib.hid (HZ.out.alloc (.cells #[.string s] 9)); have HKa := Lib.hid (balloc HK.out (.cells #[.string s] 9)); have HRa := Lib.hid (HR.out.alloc (.cells #[.string s] 9)); refine (ins_own i s w4.heap.size HRa.out HKa.out.size HI.out (by have := HL.out; omega) (heap_alloc_new w4 _) (own_ne_new HR.out)).mono ?_; rintro e w5 ⟨v2, rfl, ho2, hg2, _⟩; obtain ⟨AV2, cv2, rfl⟩ := own_sl ho2; have HX1 := Lib.hid (HXa.out.grown hg2 (own_ne_blk HRa.out HXa.out (by decide)).symm); have HZ1 := Lib.hid (HZa.out.grown hg2 (own_ne_blk HRa.out HZa.out (by decide)).symm); have HK1 := Lib.hid (bgrown HKa.out hg2 (fun k e => (HRa.out.lt k e).1)); have HR1 := Lib.hid ho2; clear HX HZ HK HR HXa HZa HKa HRa hg2 ho2 co0 co1 co2 co3 cx0 cx1 cx2 cx3 cx4; have HX := HX1; have HZ := HZ1; have HK := HK1; have HR := HR1; clear HX1 HZ1 HK1 HR1; have cx4 := (pgCells HX.out).2.2.2.2; have fx4 := HX.out.frozen 4)
  have hX : Blk (w5.setCell ⟨x0, 4, none⟩ (.slice AV2 (insL slots i s).length cv2)) x0 28 #[.int .u32 num, .int .u64 l, .int .i64 kind, .string head, .slice AV2 (insL slots i s).length cv2] := HX.out.set_ 4 (.slice AV2 (insL slots i s).length cv2)
  have hZ := HZ.out.far (p := ⟨x0, 4, none⟩) (by have := HB0.out; show _ ≠ x0; omega) (.slice AV2 (insL slots i s).length cv2)
  have hK := bsetAt (o := 4) HK.out (b := x0) (by have := HB0.out; omega) (.slice AV2 (insL slots i s).length cv2)
  have hR := own_set (b := x0) (o := 4) (u := .slice AV2 (insL slots i s).length cv2) HR.out HX.out (by decide)
  clear HX HZ HK HR HP HO HN HN0 cx4 fx4
  generalize w5.setCell ⟨x0, 4, none⟩ (.slice AV2 (insL slots i s).length cv2) = w6 at *
  have HX := Lib.hid hX
  have HZ := Lib.hid hZ
  have HK := Lib.hid hK
  have HR := Lib.hid hR
  clear hX hZ hK hR
  have hrm := room_any num l kind head (insL slots i s) AV2 cv2 w6 (own_rdrows HR.out) H64.out HSZ.out HHZ.out
  have HRm := Lib.hid hrm
  clear hrm
  have hf1 : (485 : Int) - (head).size - slotsN ((insL slots i s)) < 0 → finR num l (kind) (head) ((insL slots i s)) = (0, 0, 0, ⟨#[]⟩, [], 30) := fun h => if_pos h
  have hf2 : ¬ (485 : Int) - (head).size - slotsN ((insL slots i s)) < 0 → finR num l (kind) (head) ((insL slots i s)) = (num, l, kind, head, (insL slots i s), 0) := fun h => if_neg h
  have HF1 := Lib.hid hf1
  have HF2 := Lib.hid hf2
  clear hf1 hf2
  generalize hrm : (485 : Int) - (head).size - slotsN ((insL slots i s)) = rm at *
  by_cases hr : rm < 0
  · have d5 : decide (rm < 0) = true := by simpa using hr
    go_wp2_with (first | (refine wpList_load_row rfl 28 (.tmp 10) rfl x0 rfl 28 #[.int .u32 num, .int .u64 l, .int .i64 kind, .string head, .slice AV2 (insL slots i s).length cv2] (0, 0) _ HX.out Try.underlying28 rfl (by kernel_rfl) ?_) | (go_at_call 14; refine HRm.out.mono ?_; rintro e w9 ⟨rfl, hb9⟩; have HX1 := Lib.hid (HX.out.step hb9); have HZ1 := Lib.hid (HZ.out.step hb9); have HR1 := Lib.hid (own_below HR.out hb9); have HK1 := Lib.hid (bstep HK.out hb9); clear HX HZ HR HK hb9; have HX := HX1; have HZ := HZ1; have HR := HR1; have HK := HK1; clear HX1 HZ1 HR1 HK1) | (refine wpList_store_row rfl 28 (.tmp 6) (.tmp 119) rfl (w.heap.size + 2) #[.int .u32 0, .int .u64 0, .int .i64 0, .string ⟨#[]⟩, .slice none 0 0] rfl rfl 28 #[.int .u32 0, .int .u64 0, .int .i64 0, .string ⟨#[]⟩, .slice none 0 0] HZ.out (by kernel_rfl) rfl (by simp [Value.oneCell']) ?_))
    refine bodyPost_ret (v := .tuple #[.agg #[.int .u32 0, .int .u64 0, .int .i64 0, .string ⟨#[]⟩, .slice none 0 0], .int .i64 30]) (by exact results_ct (p := 6) (q := 7) rfl _ _ (w.heap.size + 2) 28 #[.int .u32 0, .int .u64 0, .int .i64 0, .string ⟨#[]⟩, .slice none 0 0] (0, 0) _ rfl (blk_setRow HZ.out) Try.underlying28 rfl (by kernel_rfl)) rfl ?_
    rw [HF1.out hr]
    exact ⟨_, rfl, World.ownsRow_nil _ _ _ _, setRow_below HK.out (by omega) _⟩
  · have d5 : decide (rm < 0) = false := by simpa using hr
    go_wp2_with (first | (refine wpList_load_row rfl 28 (.tmp 10) rfl x0 rfl 28 #[.int .u32 num, .int .u64 l, .int .i64 kind, .string head, .slice AV2 (insL slots i s).length cv2] (0, 0) _ HX.out Try.underlying28 rfl (by kernel_rfl) ?_) | (go_at_call 14; refine HRm.out.mono ?_; rintro e w9 ⟨rfl, hb9⟩; have HX1 := Lib.hid (HX.out.step hb9); have HZ1 := Lib.hid (HZ.out.step hb9); have HR1 := Lib.hid (own_below HR.out hb9); have HK1 := Lib.hid (bstep HK.out hb9); clear HX HZ HR HK hb9; have HX := HX1; have HZ := HZ1; have HR := HR1; have HK := HK1; clear HX1 HZ1 HR1 HK1) | (refine wpList_store_row rfl 28 (.tmp 6) (.tmp 120) rfl (w.heap.size + 2) #[.int .u32 num, .int .u64 l, .int .i64 kind, .string head, .slice AV2 (insL slots i s).length cv2] rfl rfl 28 #[.int .u32 0, .int .u64 0, .int .i64 0, .string ⟨#[]⟩, .slice none 0 0] HZ.out (by kernel_rfl) rfl (by simp [Value.oneCell']) ?_))
    refine bodyPost_ret (v := .tuple #[.agg #[.int .u32 num, .int .u64 l, .int .i64 kind, .string head, .slice AV2 (insL slots i s).length cv2], .int .i64 0]) (by exact results_ct (p := 6) (q := 7) rfl _ _ (w.heap.size + 2) 28 #[.int .u32 num, .int .u64 l, .int .i64 kind, .string head, .slice AV2 (insL slots i s).length cv2] (0, 0) _ rfl (blk_setRow HZ.out) Try.underlying28 rfl (by kernel_rfl)) rfl ?_
    rw [HF2.out hr]
    exact ⟨_, rfl, own_setRow HR.out HZ.out (by decide), setRow_below HK.out (by omega) _⟩
set_option maxHeartbeats 3000000 in
theorem apply_k3 (num lsn kind : Int) (head : ByteArray) (slots : List ByteArray) (AA : Option Addr) (cc : Nat) (i : Nat) (s o : ByteArray) (l : Int) (w : World) (hA : RdRows strC 1 w AA slots) (h64 : slots.length ≤ 64) (hE : opEs 3 i s o = 0) (hS : ∀ w', Below w.heap.size w w' → Calls Try.prog 48 #[.agg #[.int .u32 num, .int .u64 lsn, .int .i64 kind, .string head, .slice AA slots.length cc], .agg #[.int .i64 3, .int .i64 (i : Int), .string s, .string o]] w' fun e w'' => e = .returned (.int .i64 0) ∧ Below w'.heap.size w' w'') (hi : i < slots.length) (hsz : ∀ x ∈ slots.eraseIdx i, x.size ≤ 140737488351232) (hhz : (head).size ≤ 140737488351232) :
    Calls Try.prog 23 #[.agg #[.int .u32 num, .int .u64 lsn, .int .i64 kind, .string head, .slice AA slots.length cc], .agg #[.int .i64 3, .int .i64 (i : Int), .string s, .string o], .int .u64 l] w (apPost w (finR num l (kind) (head) (slots.eraseIdx i))) := by
  have HI := Lib.hid hi
  clear hi
  have HSZ := Lib.hid hsz
  have HHZ := Lib.hid hhz
  clear hsz hhz
  have HA := Lib.hid hA
  have HL := Lib.hid h64
  have HS := Lib.hid hS
  have HE := Lib.hid hE
  clear hA h64 hS hE
  go_enter Try.func23, Try.ntmps23
  go_upto_region 1 with fail
  have hP : Blk (((w.alloc (.cells #[.int .u32 num, .int .u64 lsn, .int .i64 kind, .string head, .slice AA slots.length cc] 28)).alloc (.cells #[.int .i64 3, .int .i64 (i : Int), .string s, .string o] 54)).alloc (.cells #[.int .u32 0, .int .u64 0, .int .i64 0, .string ⟨#[]⟩, .slice none 0 0] 28)) w.heap.size 28 #[.int .u32 num, .int .u64 lsn, .int .i64 kind, .string head, .slice AA slots.length cc] := ((Blk.new w 28 #[.int .u32 num, .int .u64 lsn, .int .i64 kind, .string head, .slice AA slots.length cc]).alloc _).alloc _
  have hO : Blk (((w.alloc (.cells #[.int .u32 num, .int .u64 lsn, .int .i64 kind, .string head, .slice AA slots.length cc] 28)).alloc (.cells #[.int .i64 3, .int .i64 (i : Int), .string s, .string o] 54)).alloc (.cells #[.int .u32 0, .int .u64 0, .int .i64 0, .string ⟨#[]⟩, .slice none 0 0] 28)) (w.heap.size + 1) 54 #[.int .i64 3, .int .i64 (i : Int), .string s, .string o] := by
    have := (Blk.new (w.alloc (.cells #[.int .u32 num, .int .u64 lsn, .int .i64 kind, .string head, .slice AA slots.length cc] 28)) 54 #[.int .i64 3, .int .i64 (i : Int), .string s, .string o]).alloc (.cells #[.int .u32 0, .int .u64 0, .int .i64 0, .string ⟨#[]⟩, .slice none 0 0] 28)
    rwa [size_al] at this
  have hZ : Blk (((w.alloc (.cells #[.int .u32 num, .int .u64 lsn, .int .i64 kind, .string head, .slice AA slots.length cc] 28)).alloc (.cells #[.int .i64 3, .int .i64 (i : Int), .string s, .string o] 54)).alloc (.cells #[.int .u32 0, .int .u64 0, .int .i64 0, .string ⟨#[]⟩, .slice none 0 0] 28)) (w.heap.size + 2) 28 #[.int .u32 0, .int .u64 0, .int .i64 0, .string ⟨#[]⟩, .slice none 0 0] := by
    have := Blk.new ((w.alloc (.cells #[.int .u32 num, .int .u64 lsn, .int .i64 kind, .string head, .slice AA slots.length cc] 28)).alloc (.cells #[.int .i64 3, .int .i64 (i : Int), .string s, .string o] 54)) 28 #[.int .u32 0, .int .u64 0, .int .i64 0, .string ⟨#[]⟩, .slice none 0 0]
    rwa [size_al, size_al] at this
  have hK := balloc (balloc (balloc (Below.refl w.heap.size w) (.cells #[.int .u32 num, .int .u64 lsn, .int .i64 kind, .string head, .slice AA slots.length cc] 28)) (.cells #[.int .i64 3, .int .i64 (i : Int), .string s, .string o] 54)) (.cells #[.int .u32 0, .int .u64 0, .int .i64 0, .string ⟨#[]⟩, .slice none 0 0] 28)
  have hN : w.heap.size + 3 ≤ (((w.alloc (.cells #[.int .u32 num, .int .u64 lsn, .int .i64 kind, .string head, .slice AA slots.length cc] 28)).alloc (.cells #[.int .i64 3, .int .i64 (i : Int), .string s, .string o] 54)).alloc (.cells #[.int .u32 0, .int .u64 0, .int .i64 0, .string ⟨#[]⟩, .slice none 0 0] 28)).heap.size := by rw [size_al, size_al, size_al]; omega
  have HP := Lib.hid hP
  have HO := Lib.hid hO
  have HZ := Lib.hid hZ
  have HK := Lib.hid hK
  have HN := Lib.hid hN
  clear hP hO hZ hK hN
  generalize ((w.alloc (.cells #[.int .u32 num, .int .u64 lsn, .int .i64 kind, .string head, .slice AA slots.length cc] 28)).alloc (.cells #[.int .i64 3, .int .i64 (i : Int), .string s, .string o] 54)).alloc (.cells #[.int .u32 0, .int .u64 0, .int .i64 0, .string ⟨#[]⟩, .slice none 0 0] 28) = w0 at *
  go_upto_region 7 with (first | (refine wpList_load_row rfl 28 (.tmp 3) rfl w.heap.size rfl 28 #[.int .u32 num, .int .u64 lsn, .int .i64 kind, .string head, .slice AA slots.length cc] (0, 0) _ HP.out Try.underlying28 rfl (by kernel_rfl) ?_) | (refine wpList_load_row rfl 54 (.tmp 4) rfl (w.heap.size + 1) rfl 54 #[.int .i64 3, .int .i64 (i : Int), .string s, .string o] (0, 0) _ HO.out Try.underlying54 rfl (by kernel_rfl) ?_) | (go_at_call 47; refine (pcheck_str 3 i s o _).mono ?_; rintro e w1 ⟨rfl, hb1⟩; rw [HE.out]; have HP1 := Lib.hid (HP.out.step hb1); have HO1 := Lib.hid (HO.out.step hb1); have HZ1 := Lib.hid (HZ.out.step hb1); have HK1 := Lib.hid (bstep HK.out hb1); have HN1 := Lib.hid (Nat.le_trans HN.out hb1.size); clear HN HK HP HO HZ; have HP := HP1; clear HP1; have HO := HO1; clear HO1; have HZ := HZ1; clear HZ1; have HK := HK1; clear HK1; have HN := HN1; clear HN1; clear hb1) | (go_at_call 48; refine (HS.out _ HK.out).mono ?_; rintro e w1 ⟨rfl, hb1⟩; have HP1 := Lib.hid (HP.out.step hb1); have HO1 := Lib.hid (HO.out.step hb1); have HZ1 := Lib.hid (HZ.out.step hb1); have HK1 := Lib.hid (bstep HK.out hb1); have HN1 := Lib.hid (Nat.le_trans HN.out hb1.size); clear HN HK HP HO HZ; have HP := HP1; clear HP1; have HO := HO1; clear HO1; have HZ := HZ1; clear HZ1; have HK := HK1; clear HK1; have HN := HN1; clear HN1; clear hb1))
  go_upto_region 8 with (first | (refine wpList_load_row rfl 28 (.tmp 3) rfl w.heap.size rfl 28 #[.int .u32 num, .int .u64 lsn, .int .i64 kind, .string head, .slice AA slots.length cc] (0, 0) _ HP.out Try.underlying28 rfl (by kernel_rfl) ?_) | (refine wpList_store_row rfl 28 (.tmp 10) (.tmp 25) rfl w1.heap.size #[.int .u32 num, .int .u64 lsn, .int .i64 kind, .string head, .slice AA slots.length cc] rfl rfl 28 #[.int .u32 0, .int .u64 0, .int .i64 0, .string ⟨#[]⟩, .slice none 0 0] (Blk.new w1 28 #[.int .u32 0, .int .u64 0, .int .i64 0, .string ⟨#[]⟩, .slice none 0 0]) (by kernel_rfl) rfl (by simp [Value.oneCell']) ?_))
  have hX := blk_setRow (cs' := #[.int .u32 num, .int .u64 lsn, .int .i64 kind, .string head, .slice AA slots.length cc]) (Blk.new w1 28 #[.int .u32 0, .int .u64 0, .int .i64 0, .string ⟨#[]⟩, .slice none 0 0])
  have hK := setRow_below (balloc HK.out (.cells #[.int .u32 0, .int .u64 0, .int .i64 0, .string ⟨#[]⟩, .slice none 0 0] 28)) (g := w1.heap.size) HK.out.size #[.int .u32 num, .int .u64 lsn, .int .i64 kind, .string head, .slice AA slots.length cc]
  have hP := blk_setRow_far (HP.out.alloc (.cells #[.int .u32 0, .int .u64 0, .int .i64 0, .string ⟨#[]⟩, .slice none 0 0] 28)) (b := w1.heap.size) #[.int .u32 num, .int .u64 lsn, .int .i64 kind, .string head, .slice AA slots.length cc] (by have := HN.out; omega)
  have hO := blk_setRow_far (HO.out.alloc (.cells #[.int .u32 0, .int .u64 0, .int .i64 0, .string ⟨#[]⟩, .slice none 0 0] 28)) (b := w1.heap.size) #[.int .u32 num, .int .u64 lsn, .int .i64 kind, .string head, .slice AA slots.length cc] (by have := HN.out; omega)
  have hZ := blk_setRow_far (HZ.out.alloc (.cells #[.int .u32 0, .int .u64 0, .int .i64 0, .string ⟨#[]⟩, .slice none 0 0] 28)) (b := w1.heap.size) #[.int .u32 num, .int .u64 lsn, .int .i64 kind, .string head, .slice AA slots.length cc] (by have := HN.out; omega)
  have hN : w1.heap.size + 1 ≤ ((w1.alloc (.cells #[.int .u32 0, .int .u64 0, .int .i64 0, .string ⟨#[]⟩, .slice none 0 0] 28)).setRow w1.heap.size #[.int .u32 num, .int .u64 lsn, .int .i64 kind, .string head, .slice AA slots.length cc]).heap.size := by rw [size_sr, size_al]; omega
  have hN0 := HN.out
  clear HP HO HZ HK HN
  obtain ⟨x0, hx0⟩ : ∃ x, x = w1.heap.size := ⟨_, rfl⟩
  rw [← hx0] at hX hP hO hZ hK hN hN0
  simp only [← hx0]
  have hcl := clone_any (A := AA) (l := slots) cc (rows_bl1 HA.out hK) (by have := HL.out; omega)
  generalize ((w1.alloc (.cells #[.int .u32 0, .int .u64 0, .int .i64 0, .string ⟨#[]⟩, .slice none 0 0] 28)).setRow x0 #[.int .u32 num, .int .u64 lsn, .int .i64 kind, .string head, .slice AA slots.length cc]) = w2 at *
  have HX := Lib.hid hX
  have HP := Lib.hid hP
  have HO := Lib.hid hO
  have HZ := Lib.hid hZ
  have HK := Lib.hid hK
  have HN := Lib.hid hN
  have HN0 := Lib.hid hN0
  have HC := Lib.hid hcl
  have c4 := (pgCells hP).2.2.2.2
  clear hX hP hO hZ hK hN hN0 hcl hx0
  go_upto_region 9 with (go_at_call 49; refine HC.out.mono ?_; rintro e w3 ⟨v, rfl, ho1, hb1⟩; obtain ⟨AV, cv, rfl⟩ := own_sl ho1; have ho1 := own_le ho1 HK.out.size; have HP1 := Lib.hid (HP.out.step hb1); have HO1 := Lib.hid (HO.out.step hb1); have HZ1 := Lib.hid (HZ.out.step hb1); have HX1 := Lib.hid (HX.out.step hb1); have HK1 := Lib.hid (bstep HK.out hb1); have HN1 := Lib.hid (Nat.le_trans HN.out hb1.size); clear HN HK HP HO HZ HX; have HP := HP1; clear HP1; have HO := HO1; clear HO1; have HZ := HZ1; clear HZ1; have HX := HX1; clear HX1; have HK := HK1; clear HK1; have HN := HN1; clear HN1; have HR := Lib.hid ho1; have HB0 := Lib.hid HN0.out; clear hb1 ho1 HC c4; obtain ⟨cx0, cx1, cx2, cx3, cx4⟩ := pgCells HX.out; have fx1 := HX.out.frozen 1; have fx4 := HX.out.frozen 4)
  have hX : Blk ((w3.setCell ⟨x0, 4, none⟩ (.slice AV slots.length cv)).setCell ⟨x0, 1, none⟩ (.int .u64 l)) x0 28 #[.int .u32 num, .int .u64 l, .int .i64 kind, .string head, .slice AV slots.length cv] := (HX.out.set_ 4 (.slice AV slots.length cv)).set_ 1 (.int .u64 l)
  have hP := (HP.out.far (p := ⟨x0, 4, none⟩) (by have := HB0.out; show _ ≠ x0; omega) (.slice AV slots.length cv)).far (p := ⟨x0, 1, none⟩) (by have := HB0.out; show _ ≠ x0; omega) (.int .u64 l)
  have hO := (HO.out.far (p := ⟨x0, 4, none⟩) (by have := HB0.out; show _ ≠ x0; omega) (.slice AV slots.length cv)).far (p := ⟨x0, 1, none⟩) (by have := HB0.out; show _ ≠ x0; omega) (.int .u64 l)
  have hZ := (HZ.out.far (p := ⟨x0, 4, none⟩) (by have := HB0.out; show _ ≠ x0; omega) (.slice AV slots.length cv)).far (p := ⟨x0, 1, none⟩) (by have := HB0.out; show _ ≠ x0; omega) (.int .u64 l)
  have hR := own_set (b := x0) (o := 1) (u := .int .u64 l) (own_set (b := x0) (o := 4) (u := .slice AV slots.length cv) HR.out HX.out (by decide)) (HX.out.set_ 4 _) (by decide)
  have hK := bsetAt (o := 1) (bsetAt (o := 4) HK.out (b := x0) (by have := HB0.out; omega) (.slice AV slots.length cv)) (b := x0) (by have := HB0.out; omega) (.int .u64 l)
  have hN : x0 + 1 ≤ ((w3.setCell ⟨x0, 4, none⟩ (.slice AV slots.length cv)).setCell ⟨x0, 1, none⟩ (.int .u64 l)).heap.size := by simpa using HN.out
  clear HX HP HO HZ HR HK HN HA HS HE cx0 cx1 cx2 cx3 cx4 fx1 fx4
  generalize (w3.setCell ⟨x0, 4, none⟩ (.slice AV slots.length cv)).setCell ⟨x0, 1, none⟩ (.int .u64 l) = w4 at *
  have HX := Lib.hid hX
  have HP := Lib.hid hP
  have HO := Lib.hid hO
  have HZ := Lib.hid hZ
  have HR := Lib.hid hR
  have HK := Lib.hid hK
  have HN := Lib.hid hN
  obtain ⟨co0, co1, co2, co3⟩ := opCells hO
  obtain ⟨cx0, cx1, cx2, cx3, cx4⟩ := pgCells hX
  clear hX hP hO hZ hR hK hN
  have H64 : Hid ((slots.eraseIdx i).length ≤ 64) := Lib.hid (by rw [List.length_eraseIdx_of_lt HI.out]; have := HL.out; omega)
  have hi64 : (i : Int) < 64 := by have := HL.out; have := HI.out; omega
  go_upto_region 25 with (go_at_call 51; have HXa := HX; have HZa := HZ; have HKa := HK; have HRa := HR; refine (del_own i HRa.out HI.out).mono ?_; rintro e w5 ⟨v2, rfl, ho2, hg2, _⟩; obtain ⟨AV2, cv2, rfl⟩ := own_sl ho2; have HX1 := Lib.hid (HXa.out.grown hg2 (own_ne_blk HRa.out HXa.out (by decide)).symm); have HZ1 := Lib.hid (HZa.out.grown hg2 (own_ne_blk HRa.out HZa.out (by decide)).symm); have HK1 := Lib.hid (bgrown HKa.out hg2 (fun k e => (HRa.out.lt k e).1)); have HR1 := Lib.hid ho2; clear HX HZ HK HR HXa HZa HKa HRa hg2 ho2 co0 co1 co2 co3 cx0 cx1 cx2 cx3 cx4; have HX := HX1; have HZ := HZ1; have HK := HK1; have HR := HR1; clear HX1 HZ1 HK1 HR1; have cx4 := (pgCells HX.out).2.2.2.2; have fx4 := HX.out.frozen 4)
  have hX : Blk (w5.setCell ⟨x0, 4, none⟩ (.slice AV2 (slots.eraseIdx i).length cv2)) x0 28 #[.int .u32 num, .int .u64 l, .int .i64 kind, .string head, .slice AV2 (slots.eraseIdx i).length cv2] := HX.out.set_ 4 (.slice AV2 (slots.eraseIdx i).length cv2)
  have hZ := HZ.out.far (p := ⟨x0, 4, none⟩) (by have := HB0.out; show _ ≠ x0; omega) (.slice AV2 (slots.eraseIdx i).length cv2)
  have hK := bsetAt (o := 4) HK.out (b := x0) (by have := HB0.out; omega) (.slice AV2 (slots.eraseIdx i).length cv2)
  have hR := own_set (b := x0) (o := 4) (u := .slice AV2 (slots.eraseIdx i).length cv2) HR.out HX.out (by decide)
  clear HX HZ HK HR HP HO HN HN0 cx4 fx4
  generalize w5.setCell ⟨x0, 4, none⟩ (.slice AV2 (slots.eraseIdx i).length cv2) = w6 at *
  have HX := Lib.hid hX
  have HZ := Lib.hid hZ
  have HK := Lib.hid hK
  have HR := Lib.hid hR
  clear hX hZ hK hR
  have hrm := room_any num l kind head (slots.eraseIdx i) AV2 cv2 w6 (own_rdrows HR.out) H64.out HSZ.out HHZ.out
  have HRm := Lib.hid hrm
  clear hrm
  have hf1 : (485 : Int) - (head).size - slotsN ((slots.eraseIdx i)) < 0 → finR num l (kind) (head) ((slots.eraseIdx i)) = (0, 0, 0, ⟨#[]⟩, [], 30) := fun h => if_pos h
  have hf2 : ¬ (485 : Int) - (head).size - slotsN ((slots.eraseIdx i)) < 0 → finR num l (kind) (head) ((slots.eraseIdx i)) = (num, l, kind, head, (slots.eraseIdx i), 0) := fun h => if_neg h
  have HF1 := Lib.hid hf1
  have HF2 := Lib.hid hf2
  clear hf1 hf2
  generalize hrm : (485 : Int) - (head).size - slotsN ((slots.eraseIdx i)) = rm at *
  by_cases hr : rm < 0
  · have d5 : decide (rm < 0) = true := by simpa using hr
    go_wp2_with (first | (refine wpList_load_row rfl 28 (.tmp 10) rfl x0 rfl 28 #[.int .u32 num, .int .u64 l, .int .i64 kind, .string head, .slice AV2 (slots.eraseIdx i).length cv2] (0, 0) _ HX.out Try.underlying28 rfl (by kernel_rfl) ?_) | (go_at_call 14; refine HRm.out.mono ?_; rintro e w9 ⟨rfl, hb9⟩; have HX1 := Lib.hid (HX.out.step hb9); have HZ1 := Lib.hid (HZ.out.step hb9); have HR1 := Lib.hid (own_below HR.out hb9); have HK1 := Lib.hid (bstep HK.out hb9); clear HX HZ HR HK hb9; have HX := HX1; have HZ := HZ1; have HR := HR1; have HK := HK1; clear HX1 HZ1 HR1 HK1) | (refine wpList_store_row rfl 28 (.tmp 6) (.tmp 119) rfl (w.heap.size + 2) #[.int .u32 0, .int .u64 0, .int .i64 0, .string ⟨#[]⟩, .slice none 0 0] rfl rfl 28 #[.int .u32 0, .int .u64 0, .int .i64 0, .string ⟨#[]⟩, .slice none 0 0] HZ.out (by kernel_rfl) rfl (by simp [Value.oneCell']) ?_))
    refine bodyPost_ret (v := .tuple #[.agg #[.int .u32 0, .int .u64 0, .int .i64 0, .string ⟨#[]⟩, .slice none 0 0], .int .i64 30]) (by exact results_ct (p := 6) (q := 7) rfl _ _ (w.heap.size + 2) 28 #[.int .u32 0, .int .u64 0, .int .i64 0, .string ⟨#[]⟩, .slice none 0 0] (0, 0) _ rfl (blk_setRow HZ.out) Try.underlying28 rfl (by kernel_rfl)) rfl ?_
    rw [HF1.out hr]
    exact ⟨_, rfl, World.ownsRow_nil _ _ _ _, setRow_below HK.out (by omega) _⟩
  · have d5 : decide (rm < 0) = false := by simpa using hr
    go_wp2_with (first | (refine wpList_load_row rfl 28 (.tmp 10) rfl x0 rfl 28 #[.int .u32 num, .int .u64 l, .int .i64 kind, .string head, .slice AV2 (slots.eraseIdx i).length cv2] (0, 0) _ HX.out Try.underlying28 rfl (by kernel_rfl) ?_) | (go_at_call 14; refine HRm.out.mono ?_; rintro e w9 ⟨rfl, hb9⟩; have HX1 := Lib.hid (HX.out.step hb9); have HZ1 := Lib.hid (HZ.out.step hb9); have HR1 := Lib.hid (own_below HR.out hb9); have HK1 := Lib.hid (bstep HK.out hb9); clear HX HZ HR HK hb9; have HX := HX1; have HZ := HZ1; have HR := HR1; have HK := HK1; clear HX1 HZ1 HR1 HK1) | (refine wpList_store_row rfl 28 (.tmp 6) (.tmp 120) rfl (w.heap.size + 2) #[.int .u32 num, .int .u64 l, .int .i64 kind, .string head, .slice AV2 (slots.eraseIdx i).length cv2] rfl rfl 28 #[.int .u32 0, .int .u64 0, .int .i64 0, .string ⟨#[]⟩, .slice none 0 0] HZ.out (by kernel_rfl) rfl (by simp [Value.oneCell']) ?_))
    refine bodyPost_ret (v := .tuple #[.agg #[.int .u32 num, .int .u64 l, .int .i64 kind, .string head, .slice AV2 (slots.eraseIdx i).length cv2], .int .i64 0]) (by exact results_ct (p := 6) (q := 7) rfl _ _ (w.heap.size + 2) 28 #[.int .u32 num, .int .u64 l, .int .i64 kind, .string head, .slice AV2 (slots.eraseIdx i).length cv2] (0, 0) _ rfl (blk_setRow HZ.out) Try.underlying28 rfl (by kernel_rfl)) rfl ?_
    rw [HF2.out hr]
    exact ⟨_, rfl, own_setRow HR.out HZ.out (by decide), setRow_below HK.out (by omega) _⟩
set_option maxHeartbeats 3000000 in
theorem apply_k4 (num lsn kind : Int) (head : ByteArray) (slots : List ByteArray) (AA : Option Addr) (cc : Nat) (i : Nat) (s o : ByteArray) (l : Int) (w : World) (hA : RdRows strC 1 w AA slots) (h64 : slots.length ≤ 64) (hE : opEs 4 i s o = 0) (hS : ∀ w', Below w.heap.size w w' → Calls Try.prog 48 #[.agg #[.int .u32 num, .int .u64 lsn, .int .i64 kind, .string head, .slice AA slots.length cc], .agg #[.int .i64 4, .int .i64 (i : Int), .string s, .string o]] w' fun e w'' => e = .returned (.int .i64 0) ∧ Below w'.heap.size w' w'') (sl : List ByteArray) (hsl : sl = slots.set i s) (hi : i < slots.length) (hsz : ∀ x ∈ sl, x.size ≤ 140737488351232) (hhz : (head).size ≤ 140737488351232) :
    Calls Try.prog 23 #[.agg #[.int .u32 num, .int .u64 lsn, .int .i64 kind, .string head, .slice AA slots.length cc], .agg #[.int .i64 4, .int .i64 (i : Int), .string s, .string o], .int .u64 l] w (apPost w (finR num l (kind) (head) (sl))) := by
  have HI := Lib.hid hi
  have HSl := Lib.hid hsl
  clear hi hsl
  have HSZ := Lib.hid hsz
  have HHZ := Lib.hid hhz
  clear hsz hhz
  have HA := Lib.hid hA
  have HL := Lib.hid h64
  have HS := Lib.hid hS
  have HE := Lib.hid hE
  clear hA h64 hS hE
  go_enter Try.func23, Try.ntmps23
  go_upto_region 1 with fail
  have hP : Blk (((w.alloc (.cells #[.int .u32 num, .int .u64 lsn, .int .i64 kind, .string head, .slice AA slots.length cc] 28)).alloc (.cells #[.int .i64 4, .int .i64 (i : Int), .string s, .string o] 54)).alloc (.cells #[.int .u32 0, .int .u64 0, .int .i64 0, .string ⟨#[]⟩, .slice none 0 0] 28)) w.heap.size 28 #[.int .u32 num, .int .u64 lsn, .int .i64 kind, .string head, .slice AA slots.length cc] := ((Blk.new w 28 #[.int .u32 num, .int .u64 lsn, .int .i64 kind, .string head, .slice AA slots.length cc]).alloc _).alloc _
  have hO : Blk (((w.alloc (.cells #[.int .u32 num, .int .u64 lsn, .int .i64 kind, .string head, .slice AA slots.length cc] 28)).alloc (.cells #[.int .i64 4, .int .i64 (i : Int), .string s, .string o] 54)).alloc (.cells #[.int .u32 0, .int .u64 0, .int .i64 0, .string ⟨#[]⟩, .slice none 0 0] 28)) (w.heap.size + 1) 54 #[.int .i64 4, .int .i64 (i : Int), .string s, .string o] := by
    have := (Blk.new (w.alloc (.cells #[.int .u32 num, .int .u64 lsn, .int .i64 kind, .string head, .slice AA slots.length cc] 28)) 54 #[.int .i64 4, .int .i64 (i : Int), .string s, .string o]).alloc (.cells #[.int .u32 0, .int .u64 0, .int .i64 0, .string ⟨#[]⟩, .slice none 0 0] 28)
    rwa [size_al] at this
  have hZ : Blk (((w.alloc (.cells #[.int .u32 num, .int .u64 lsn, .int .i64 kind, .string head, .slice AA slots.length cc] 28)).alloc (.cells #[.int .i64 4, .int .i64 (i : Int), .string s, .string o] 54)).alloc (.cells #[.int .u32 0, .int .u64 0, .int .i64 0, .string ⟨#[]⟩, .slice none 0 0] 28)) (w.heap.size + 2) 28 #[.int .u32 0, .int .u64 0, .int .i64 0, .string ⟨#[]⟩, .slice none 0 0] := by
    have := Blk.new ((w.alloc (.cells #[.int .u32 num, .int .u64 lsn, .int .i64 kind, .string head, .slice AA slots.length cc] 28)).alloc (.cells #[.int .i64 4, .int .i64 (i : Int), .string s, .string o] 54)) 28 #[.int .u32 0, .int .u64 0, .int .i64 0, .string ⟨#[]⟩, .slice none 0 0]
    rwa [size_al, size_al] at this
  have hK := balloc (balloc (balloc (Below.refl w.heap.size w) (.cells #[.int .u32 num, .int .u64 lsn, .int .i64 kind, .string head, .slice AA slots.length cc] 28)) (.cells #[.int .i64 4, .int .i64 (i : Int), .string s, .string o] 54)) (.cells #[.int .u32 0, .int .u64 0, .int .i64 0, .string ⟨#[]⟩, .slice none 0 0] 28)
  have hN : w.heap.size + 3 ≤ (((w.alloc (.cells #[.int .u32 num, .int .u64 lsn, .int .i64 kind, .string head, .slice AA slots.length cc] 28)).alloc (.cells #[.int .i64 4, .int .i64 (i : Int), .string s, .string o] 54)).alloc (.cells #[.int .u32 0, .int .u64 0, .int .i64 0, .string ⟨#[]⟩, .slice none 0 0] 28)).heap.size := by rw [size_al, size_al, size_al]; omega
  have HP := Lib.hid hP
  have HO := Lib.hid hO
  have HZ := Lib.hid hZ
  have HK := Lib.hid hK
  have HN := Lib.hid hN
  clear hP hO hZ hK hN
  generalize ((w.alloc (.cells #[.int .u32 num, .int .u64 lsn, .int .i64 kind, .string head, .slice AA slots.length cc] 28)).alloc (.cells #[.int .i64 4, .int .i64 (i : Int), .string s, .string o] 54)).alloc (.cells #[.int .u32 0, .int .u64 0, .int .i64 0, .string ⟨#[]⟩, .slice none 0 0] 28) = w0 at *
  go_upto_region 7 with (first | (refine wpList_load_row rfl 28 (.tmp 3) rfl w.heap.size rfl 28 #[.int .u32 num, .int .u64 lsn, .int .i64 kind, .string head, .slice AA slots.length cc] (0, 0) _ HP.out Try.underlying28 rfl (by kernel_rfl) ?_) | (refine wpList_load_row rfl 54 (.tmp 4) rfl (w.heap.size + 1) rfl 54 #[.int .i64 4, .int .i64 (i : Int), .string s, .string o] (0, 0) _ HO.out Try.underlying54 rfl (by kernel_rfl) ?_) | (go_at_call 47; refine (pcheck_str 4 i s o _).mono ?_; rintro e w1 ⟨rfl, hb1⟩; rw [HE.out]; have HP1 := Lib.hid (HP.out.step hb1); have HO1 := Lib.hid (HO.out.step hb1); have HZ1 := Lib.hid (HZ.out.step hb1); have HK1 := Lib.hid (bstep HK.out hb1); have HN1 := Lib.hid (Nat.le_trans HN.out hb1.size); clear HN HK HP HO HZ; have HP := HP1; clear HP1; have HO := HO1; clear HO1; have HZ := HZ1; clear HZ1; have HK := HK1; clear HK1; have HN := HN1; clear HN1; clear hb1) | (go_at_call 48; refine (HS.out _ HK.out).mono ?_; rintro e w1 ⟨rfl, hb1⟩; have HP1 := Lib.hid (HP.out.step hb1); have HO1 := Lib.hid (HO.out.step hb1); have HZ1 := Lib.hid (HZ.out.step hb1); have HK1 := Lib.hid (bstep HK.out hb1); have HN1 := Lib.hid (Nat.le_trans HN.out hb1.size); clear HN HK HP HO HZ; have HP := HP1; clear HP1; have HO := HO1; clear HO1; have HZ := HZ1; clear HZ1; have HK := HK1; clear HK1; have HN := HN1; clear HN1; clear hb1))
  go_upto_region 8 with (first | (refine wpList_load_row rfl 28 (.tmp 3) rfl w.heap.size rfl 28 #[.int .u32 num, .int .u64 lsn, .int .i64 kind, .string head, .slice AA slots.length cc] (0, 0) _ HP.out Try.underlying28 rfl (by kernel_rfl) ?_) | (refine wpList_store_row rfl 28 (.tmp 10) (.tmp 25) rfl w1.heap.size #[.int .u32 num, .int .u64 lsn, .int .i64 kind, .string head, .slice AA slots.length cc] rfl rfl 28 #[.int .u32 0, .int .u64 0, .int .i64 0, .string ⟨#[]⟩, .slice none 0 0] (Blk.new w1 28 #[.int .u32 0, .int .u64 0, .int .i64 0, .string ⟨#[]⟩, .slice none 0 0]) (by kernel_rfl) rfl (by simp [Value.oneCell']) ?_))
  have hX := blk_setRow (cs' := #[.int .u32 num, .int .u64 lsn, .int .i64 kind, .string head, .slice AA slots.length cc]) (Blk.new w1 28 #[.int .u32 0, .int .u64 0, .int .i64 0, .string ⟨#[]⟩, .slice none 0 0])
  have hK := setRow_below (balloc HK.out (.cells #[.int .u32 0, .int .u64 0, .int .i64 0, .string ⟨#[]⟩, .slice none 0 0] 28)) (g := w1.heap.size) HK.out.size #[.int .u32 num, .int .u64 lsn, .int .i64 kind, .string head, .slice AA slots.length cc]
  have hP := blk_setRow_far (HP.out.alloc (.cells #[.int .u32 0, .int .u64 0, .int .i64 0, .string ⟨#[]⟩, .slice none 0 0] 28)) (b := w1.heap.size) #[.int .u32 num, .int .u64 lsn, .int .i64 kind, .string head, .slice AA slots.length cc] (by have := HN.out; omega)
  have hO := blk_setRow_far (HO.out.alloc (.cells #[.int .u32 0, .int .u64 0, .int .i64 0, .string ⟨#[]⟩, .slice none 0 0] 28)) (b := w1.heap.size) #[.int .u32 num, .int .u64 lsn, .int .i64 kind, .string head, .slice AA slots.length cc] (by have := HN.out; omega)
  have hZ := blk_setRow_far (HZ.out.alloc (.cells #[.int .u32 0, .int .u64 0, .int .i64 0, .string ⟨#[]⟩, .slice none 0 0] 28)) (b := w1.heap.size) #[.int .u32 num, .int .u64 lsn, .int .i64 kind, .string head, .slice AA slots.length cc] (by have := HN.out; omega)
  have hN : w1.heap.size + 1 ≤ ((w1.alloc (.cells #[.int .u32 0, .int .u64 0, .int .i64 0, .string ⟨#[]⟩, .slice none 0 0] 28)).setRow w1.heap.size #[.int .u32 num, .int .u64 lsn, .int .i64 kind, .string head, .slice AA slots.length cc]).heap.size := by rw [size_sr, size_al]; omega
  have hN0 := HN.out
  clear HP HO HZ HK HN
  obtain ⟨x0, hx0⟩ : ∃ x, x = w1.heap.size := ⟨_, rfl⟩
  rw [← hx0] at hX hP hO hZ hK hN hN0
  simp only [← hx0]
  have hcl := clone_any (A := AA) (l := slots) cc (rows_bl1 HA.out hK) (by have := HL.out; omega)
  generalize ((w1.alloc (.cells #[.int .u32 0, .int .u64 0, .int .i64 0, .string ⟨#[]⟩, .slice none 0 0] 28)).setRow x0 #[.int .u32 num, .int .u64 lsn, .int .i64 kind, .string head, .slice AA slots.length cc]) = w2 at *
  have HX := Lib.hid hX
  have HP := Lib.hid hP
  have HO := Lib.hid hO
  have HZ := Lib.hid hZ
  have HK := Lib.hid hK
  have HN := Lib.hid hN
  have HN0 := Lib.hid hN0
  have HC := Lib.hid hcl
  have c4 := (pgCells hP).2.2.2.2
  clear hX hP hO hZ hK hN hN0 hcl hx0
  go_upto_region 9 with (go_at_call 49; refine HC.out.mono ?_; rintro e w3 ⟨v, rfl, ho1, hb1⟩; obtain ⟨AV, cv, rfl⟩ := own_sl ho1; have ho1 := own_le ho1 HK.out.size; have HP1 := Lib.hid (HP.out.step hb1); have HO1 := Lib.hid (HO.out.step hb1); have HZ1 := Lib.hid (HZ.out.step hb1); have HX1 := Lib.hid (HX.out.step hb1); have HK1 := Lib.hid (bstep HK.out hb1); have HN1 := Lib.hid (Nat.le_trans HN.out hb1.size); clear HN HK HP HO HZ HX; have HP := HP1; clear HP1; have HO := HO1; clear HO1; have HZ := HZ1; clear HZ1; have HX := HX1; clear HX1; have HK := HK1; clear HK1; have HN := HN1; clear HN1; have HR := Lib.hid ho1; have HB0 := Lib.hid HN0.out; clear hb1 ho1 HC c4; obtain ⟨cx0, cx1, cx2, cx3, cx4⟩ := pgCells HX.out; have fx1 := HX.out.frozen 1; have fx4 := HX.out.frozen 4)
  have hX : Blk ((w3.setCell ⟨x0, 4, none⟩ (.slice AV slots.length cv)).setCell ⟨x0, 1, none⟩ (.int .u64 l)) x0 28 #[.int .u32 num, .int .u64 l, .int .i64 kind, .string head, .slice AV slots.length cv] := (HX.out.set_ 4 (.slice AV slots.length cv)).set_ 1 (.int .u64 l)
  have hP := (HP.out.far (p := ⟨x0, 4, none⟩) (by have := HB0.out; show _ ≠ x0; omega) (.slice AV slots.length cv)).far (p := ⟨x0, 1, none⟩) (by have := HB0.out; show _ ≠ x0; omega) (.int .u64 l)
  have hO := (HO.out.far (p := ⟨x0, 4, none⟩) (by have := HB0.out; show _ ≠ x0; omega) (.slice AV slots.length cv)).far (p := ⟨x0, 1, none⟩) (by have := HB0.out; show _ ≠ x0; omega) (.int .u64 l)
  have hZ := (HZ.out.far (p := ⟨x0, 4, none⟩) (by have := HB0.out; show _ ≠ x0; omega) (.slice AV slots.length cv)).far (p := ⟨x0, 1, none⟩) (by have := HB0.out; show _ ≠ x0; omega) (.int .u64 l)
  have hR := own_set (b := x0) (o := 1) (u := .int .u64 l) (own_set (b := x0) (o := 4) (u := .slice AV slots.length cv) HR.out HX.out (by decide)) (HX.out.set_ 4 _) (by decide)
  have hK := bsetAt (o := 1) (bsetAt (o := 4) HK.out (b := x0) (by have := HB0.out; omega) (.slice AV slots.length cv)) (b := x0) (by have := HB0.out; omega) (.int .u64 l)
  have hN : x0 + 1 ≤ ((w3.setCell ⟨x0, 4, none⟩ (.slice AV slots.length cv)).setCell ⟨x0, 1, none⟩ (.int .u64 l)).heap.size := by simpa using HN.out
  clear HX HP HO HZ HR HK HN HA HS HE cx0 cx1 cx2 cx3 cx4 fx1 fx4
  generalize (w3.setCell ⟨x0, 4, none⟩ (.slice AV slots.length cv)).setCell ⟨x0, 1, none⟩ (.int .u64 l) = w4 at *
  have HX := Lib.hid hX
  have HP := Lib.hid hP
  have HO := Lib.hid hO
  have HZ := Lib.hid hZ
  have HR := Lib.hid hR
  have HK := Lib.hid hK
  have HN := Lib.hid hN
  obtain ⟨co0, co1, co2, co3⟩ := opCells hO
  obtain ⟨cx0, cx1, cx2, cx3, cx4⟩ := pgCells hX
  clear hX hP hO hZ hR hK hN
  have H64 : Hid (sl.length ≤ 64) := Lib.hid (by rw [HSl.out, List.length_set]; exact HL.out)
  obtain ⟨g, hgv⟩ := own_some HR.out (by have := HI.out; omega)
  subst hgv
  have i0 : (0 : Int) ≤ i := by omega
  have i1 : (i : Int) < slots.length := by have := HI.out; omega
  have cg := HR.out.cellAt i (by have := HI.out; omega)
  rw [strV_at slots i HI.out] at cg
  have fg := HR.out.frozenAt i
  go_upto_region 25 with fail
  have hst := HR.out.stored i (.string s)
  have hne := own_ne_blk HR.out HX.out (by decide)
  have hne2 := own_ne_blk HR.out HZ.out (by decide)
  have hX := HX.out.grown hst.2 hne.symm
  have hZ := HZ.out.grown hst.2 hne2.symm
  have hK := bgrown HK.out hst.2 (fun k e => (HR.out.lt k e).1)
  have hR := hst.1
  rw [strV_set, ← HSl.out] at hR
  clear HX HZ HK HR HP HO HN HN0 co0 co1 co2 co3 cx0 cx1 cx2 cx3 cx4 cg fg hst hne hne2
  generalize w4.setCell ⟨g, i, none⟩ (.string s) = w5 at *
  have HX := Lib.hid hX
  have HZ := Lib.hid hZ
  have HK := Lib.hid hK
  have HR := Lib.hid hR
  clear hX hZ hK hR
  have hle : slots.length = sl.length := by rw [HSl.out, List.length_set]
  rw [hle] at HX HR
  clear hle
  have hrm := room_any num l kind head sl (some ⟨g, 0, none⟩) cv w5 (own_rdrows HR.out) H64.out HSZ.out HHZ.out
  have HRm := Lib.hid hrm
  clear hrm
  have hf1 : (485 : Int) - (head).size - slotsN (sl) < 0 → finR num l (kind) (head) (sl) = (0, 0, 0, ⟨#[]⟩, [], 30) := fun h => if_pos h
  have hf2 : ¬ (485 : Int) - (head).size - slotsN (sl) < 0 → finR num l (kind) (head) (sl) = (num, l, kind, head, sl, 0) := fun h => if_neg h
  have HF1 := Lib.hid hf1
  have HF2 := Lib.hid hf2
  clear hf1 hf2
  generalize hrm : (485 : Int) - (head).size - slotsN (sl) = rm at *
  by_cases hr : rm < 0
  · have d5 : decide (rm < 0) = true := by simpa using hr
    go_wp2_with (first | (refine wpList_load_row rfl 28 (.tmp 10) rfl x0 rfl 28 #[.int .u32 num, .int .u64 l, .int .i64 kind, .string head, .slice (some ⟨g, 0, none⟩) sl.length cv] (0, 0) _ HX.out Try.underlying28 rfl (by kernel_rfl) ?_) | (go_at_call 14; refine HRm.out.mono ?_; rintro e w9 ⟨rfl, hb9⟩; have HX1 := Lib.hid (HX.out.step hb9); have HZ1 := Lib.hid (HZ.out.step hb9); have HR1 := Lib.hid (own_below HR.out hb9); have HK1 := Lib.hid (bstep HK.out hb9); clear HX HZ HR HK hb9; have HX := HX1; have HZ := HZ1; have HR := HR1; have HK := HK1; clear HX1 HZ1 HR1 HK1) | (refine wpList_store_row rfl 28 (.tmp 6) (.tmp 119) rfl (w.heap.size + 2) #[.int .u32 0, .int .u64 0, .int .i64 0, .string ⟨#[]⟩, .slice none 0 0] rfl rfl 28 #[.int .u32 0, .int .u64 0, .int .i64 0, .string ⟨#[]⟩, .slice none 0 0] HZ.out (by kernel_rfl) rfl (by simp [Value.oneCell']) ?_))
    refine bodyPost_ret (v := .tuple #[.agg #[.int .u32 0, .int .u64 0, .int .i64 0, .string ⟨#[]⟩, .slice none 0 0], .int .i64 30]) (by exact results_ct (p := 6) (q := 7) rfl _ _ (w.heap.size + 2) 28 #[.int .u32 0, .int .u64 0, .int .i64 0, .string ⟨#[]⟩, .slice none 0 0] (0, 0) _ rfl (blk_setRow HZ.out) Try.underlying28 rfl (by kernel_rfl)) rfl ?_
    rw [HF1.out hr]
    exact ⟨_, rfl, World.ownsRow_nil _ _ _ _, setRow_below HK.out (by omega) _⟩
  · have d5 : decide (rm < 0) = false := by simpa using hr
    go_wp2_with (first | (refine wpList_load_row rfl 28 (.tmp 10) rfl x0 rfl 28 #[.int .u32 num, .int .u64 l, .int .i64 kind, .string head, .slice (some ⟨g, 0, none⟩) sl.length cv] (0, 0) _ HX.out Try.underlying28 rfl (by kernel_rfl) ?_) | (go_at_call 14; refine HRm.out.mono ?_; rintro e w9 ⟨rfl, hb9⟩; have HX1 := Lib.hid (HX.out.step hb9); have HZ1 := Lib.hid (HZ.out.step hb9); have HR1 := Lib.hid (own_below HR.out hb9); have HK1 := Lib.hid (bstep HK.out hb9); clear HX HZ HR HK hb9; have HX := HX1; have HZ := HZ1; have HR := HR1; have HK := HK1; clear HX1 HZ1 HR1 HK1) | (refine wpList_store_row rfl 28 (.tmp 6) (.tmp 120) rfl (w.heap.size + 2) #[.int .u32 num, .int .u64 l, .int .i64 kind, .string head, .slice (some ⟨g, 0, none⟩) sl.length cv] rfl rfl 28 #[.int .u32 0, .int .u64 0, .int .i64 0, .string ⟨#[]⟩, .slice none 0 0] HZ.out (by kernel_rfl) rfl (by simp [Value.oneCell']) ?_))
    refine bodyPost_ret (v := .tuple #[.agg #[.int .u32 num, .int .u64 l, .int .i64 kind, .string head, .slice (some ⟨g, 0, none⟩) sl.length cv], .int .i64 0]) (by exact results_ct (p := 6) (q := 7) rfl _ _ (w.heap.size + 2) 28 #[.int .u32 num, .int .u64 l, .int .i64 kind, .string head, .slice (some ⟨g, 0, none⟩) sl.length cv] (0, 0) _ rfl (blk_setRow HZ.out) Try.underlying28 rfl (by kernel_rfl)) rfl ?_
    rw [HF2.out hr]
    exact ⟨_, rfl, own_setRow HR.out HZ.out (by decide), setRow_below HK.out (by omega) _⟩
set_option maxHeartbeats 3000000 in
theorem apply_k6 (num lsn kind : Int) (head : ByteArray) (slots : List ByteArray) (AA : Option Addr) (cc : Nat) (i : Nat) (s o : ByteArray) (l : Int) (w : World) (hA : RdRows strC 1 w AA slots) (h64 : slots.length ≤ 64) (hE : opEs 6 i s o = 0) (hS : ∀ w', Below w.heap.size w w' → Calls Try.prog 48 #[.agg #[.int .u32 num, .int .u64 lsn, .int .i64 kind, .string head, .slice AA slots.length cc], .agg #[.int .i64 6, .int .i64 (i : Int), .string s, .string o]] w' fun e w'' => e = .returned (.int .i64 0) ∧ Below w'.heap.size w' w'') (p q : ByteArray) (sl : List ByteArray) (hp : 0 < slots.length) (hp0 : ∀ h : 0 < slots.length, slots[0]'h = p) (hsl : sl = slots.set 0 q) (hi : i + s.size ≤ p.size) (hps : p.size ≤ 140737488351232) (hq : p.extract 0 i ++ s ++ p.extract (i + s.size) p.size = q) (hsz : ∀ x ∈ sl, x.size ≤ 140737488351232) (hhz : (head).size ≤ 140737488351232) :
    Calls Try.prog 23 #[.agg #[.int .u32 num, .int .u64 lsn, .int .i64 kind, .string head, .slice AA slots.length cc], .agg #[.int .i64 6, .int .i64 (i : Int), .string s, .string o], .int .u64 l] w (apPost w (finR num l (kind) (head) (sl))) := by
  have HI := Lib.hid hi
  have HSl := Lib.hid hsl
  have Hp := Lib.hid hp
  have Hp0 := Lib.hid hp0
  have HPs := Lib.hid hps
  have HQ := Lib.hid hq
  clear hi hsl hp hp0 hps hq
  have HSZ := Lib.hid hsz
  have HHZ := Lib.hid hhz
  clear hsz hhz
  have HA := Lib.hid hA
  have HL := Lib.hid h64
  have HS := Lib.hid hS
  have HE := Lib.hid hE
  clear hA h64 hS hE
  go_enter Try.func23, Try.ntmps23
  go_upto_region 1 with fail
  have hP : Blk (((w.alloc (.cells #[.int .u32 num, .int .u64 lsn, .int .i64 kind, .string head, .slice AA slots.length cc] 28)).alloc (.cells #[.int .i64 6, .int .i64 (i : Int), .string s, .string o] 54)).alloc (.cells #[.int .u32 0, .int .u64 0, .int .i64 0, .string ⟨#[]⟩, .slice none 0 0] 28)) w.heap.size 28 #[.int .u32 num, .int .u64 lsn, .int .i64 kind, .string head, .slice AA slots.length cc] := ((Blk.new w 28 #[.int .u32 num, .int .u64 lsn, .int .i64 kind, .string head, .slice AA slots.length cc]).alloc _).alloc _
  have hO : Blk (((w.alloc (.cells #[.int .u32 num, .int .u64 lsn, .int .i64 kind, .string head, .slice AA slots.length cc] 28)).alloc (.cells #[.int .i64 6, .int .i64 (i : Int), .string s, .string o] 54)).alloc (.cells #[.int .u32 0, .int .u64 0, .int .i64 0, .string ⟨#[]⟩, .slice none 0 0] 28)) (w.heap.size + 1) 54 #[.int .i64 6, .int .i64 (i : Int), .string s, .string o] := by
    have := (Blk.new (w.alloc (.cells #[.int .u32 num, .int .u64 lsn, .int .i64 kind, .string head, .slice AA slots.length cc] 28)) 54 #[.int .i64 6, .int .i64 (i : Int), .string s, .string o]).alloc (.cells #[.int .u32 0, .int .u64 0, .int .i64 0, .string ⟨#[]⟩, .slice none 0 0] 28)
    rwa [size_al] at this
  have hZ : Blk (((w.alloc (.cells #[.int .u32 num, .int .u64 lsn, .int .i64 kind, .string head, .slice AA slots.length cc] 28)).alloc (.cells #[.int .i64 6, .int .i64 (i : Int), .string s, .string o] 54)).alloc (.cells #[.int .u32 0, .int .u64 0, .int .i64 0, .string ⟨#[]⟩, .slice none 0 0] 28)) (w.heap.size + 2) 28 #[.int .u32 0, .int .u64 0, .int .i64 0, .string ⟨#[]⟩, .slice none 0 0] := by
    have := Blk.new ((w.alloc (.cells #[.int .u32 num, .int .u64 lsn, .int .i64 kind, .string head, .slice AA slots.length cc] 28)).alloc (.cells #[.int .i64 6, .int .i64 (i : Int), .string s, .string o] 54)) 28 #[.int .u32 0, .int .u64 0, .int .i64 0, .string ⟨#[]⟩, .slice none 0 0]
    rwa [size_al, size_al] at this
  have hK := balloc (balloc (balloc (Below.refl w.heap.size w) (.cells #[.int .u32 num, .int .u64 lsn, .int .i64 kind, .string head, .slice AA slots.length cc] 28)) (.cells #[.int .i64 6, .int .i64 (i : Int), .string s, .string o] 54)) (.cells #[.int .u32 0, .int .u64 0, .int .i64 0, .string ⟨#[]⟩, .slice none 0 0] 28)
  have hN : w.heap.size + 3 ≤ (((w.alloc (.cells #[.int .u32 num, .int .u64 lsn, .int .i64 kind, .string head, .slice AA slots.length cc] 28)).alloc (.cells #[.int .i64 6, .int .i64 (i : Int), .string s, .string o] 54)).alloc (.cells #[.int .u32 0, .int .u64 0, .int .i64 0, .string ⟨#[]⟩, .slice none 0 0] 28)).heap.size := by rw [size_al, size_al, size_al]; omega
  have HP := Lib.hid hP
  have HO := Lib.hid hO
  have HZ := Lib.hid hZ
  have HK := Lib.hid hK
  have HN := Lib.hid hN
  clear hP hO hZ hK hN
  generalize ((w.alloc (.cells #[.int .u32 num, .int .u64 lsn, .int .i64 kind, .string head, .slice AA slots.length cc] 28)).alloc (.cells #[.int .i64 6, .int .i64 (i : Int), .string s, .string o] 54)).alloc (.cells #[.int .u32 0, .int .u64 0, .int .i64 0, .string ⟨#[]⟩, .slice none 0 0] 28) = w0 at *
  go_upto_region 7 with (first | (refine wpList_load_row rfl 28 (.tmp 3) rfl w.heap.size rfl 28 #[.int .u32 num, .int .u64 lsn, .int .i64 kind, .string head, .slice AA slots.length cc] (0, 0) _ HP.out Try.underlying28 rfl (by kernel_rfl) ?_) | (refine wpList_load_row rfl 54 (.tmp 4) rfl (w.heap.size + 1) rfl 54 #[.int .i64 6, .int .i64 (i : Int), .string s, .string o] (0, 0) _ HO.out Try.underlying54 rfl (by kernel_rfl) ?_) | (go_at_call 47; refine (pcheck_str 6 i s o _).mono ?_; rintro e w1 ⟨rfl, hb1⟩; rw [HE.out]; have HP1 := Lib.hid (HP.out.step hb1); have HO1 := Lib.hid (HO.out.step hb1); have HZ1 := Lib.hid (HZ.out.step hb1); have HK1 := Lib.hid (bstep HK.out hb1); have HN1 := Lib.hid (Nat.le_trans HN.out hb1.size); clear HN HK HP HO HZ; have HP := HP1; clear HP1; have HO := HO1; clear HO1; have HZ := HZ1; clear HZ1; have HK := HK1; clear HK1; have HN := HN1; clear HN1; clear hb1) | (go_at_call 48; refine (HS.out _ HK.out).mono ?_; rintro e w1 ⟨rfl, hb1⟩; have HP1 := Lib.hid (HP.out.step hb1); have HO1 := Lib.hid (HO.out.step hb1); have HZ1 := Lib.hid (HZ.out.step hb1); have HK1 := Lib.hid (bstep HK.out hb1); have HN1 := Lib.hid (Nat.le_trans HN.out hb1.size); clear HN HK HP HO HZ; have HP := HP1; clear HP1; have HO := HO1; clear HO1; have HZ := HZ1; clear HZ1; have HK := HK1; clear HK1; have HN := HN1; clear HN1; clear hb1))
  go_upto_region 8 with (first | (refine wpList_load_row rfl 28 (.tmp 3) rfl w.heap.size rfl 28 #[.int .u32 num, .int .u64 lsn, .int .i64 kind, .string head, .slice AA slots.length cc] (0, 0) _ HP.out Try.underlying28 rfl (by kernel_rfl) ?_) | (refine wpList_store_row rfl 28 (.tmp 10) (.tmp 25) rfl w1.heap.size #[.int .u32 num, .int .u64 lsn, .int .i64 kind, .string head, .slice AA slots.length cc] rfl rfl 28 #[.int .u32 0, .int .u64 0, .int .i64 0, .string ⟨#[]⟩, .slice none 0 0] (Blk.new w1 28 #[.int .u32 0, .int .u64 0, .int .i64 0, .string ⟨#[]⟩, .slice none 0 0]) (by kernel_rfl) rfl (by simp [Value.oneCell']) ?_))
  have hX := blk_setRow (cs' := #[.int .u32 num, .int .u64 lsn, .int .i64 kind, .string head, .slice AA slots.length cc]) (Blk.new w1 28 #[.int .u32 0, .int .u64 0, .int .i64 0, .string ⟨#[]⟩, .slice none 0 0])
  have hK := setRow_below (balloc HK.out (.cells #[.int .u32 0, .int .u64 0, .int .i64 0, .string ⟨#[]⟩, .slice none 0 0] 28)) (g := w1.heap.size) HK.out.size #[.int .u32 num, .int .u64 lsn, .int .i64 kind, .string head, .slice AA slots.length cc]
  have hP := blk_setRow_far (HP.out.alloc (.cells #[.int .u32 0, .int .u64 0, .int .i64 0, .string ⟨#[]⟩, .slice none 0 0] 28)) (b := w1.heap.size) #[.int .u32 num, .int .u64 lsn, .int .i64 kind, .string head, .slice AA slots.length cc] (by have := HN.out; omega)
  have hO := blk_setRow_far (HO.out.alloc (.cells #[.int .u32 0, .int .u64 0, .int .i64 0, .string ⟨#[]⟩, .slice none 0 0] 28)) (b := w1.heap.size) #[.int .u32 num, .int .u64 lsn, .int .i64 kind, .string head, .slice AA slots.length cc] (by have := HN.out; omega)
  have hZ := blk_setRow_far (HZ.out.alloc (.cells #[.int .u32 0, .int .u64 0, .int .i64 0, .string ⟨#[]⟩, .slice none 0 0] 28)) (b := w1.heap.size) #[.int .u32 num, .int .u64 lsn, .int .i64 kind, .string head, .slice AA slots.length cc] (by have := HN.out; omega)
  have hN : w1.heap.size + 1 ≤ ((w1.alloc (.cells #[.int .u32 0, .int .u64 0, .int .i64 0, .string ⟨#[]⟩, .slice none 0 0] 28)).setRow w1.heap.size #[.int .u32 num, .int .u64 lsn, .int .i64 kind, .string head, .slice AA slots.length cc]).heap.size := by rw [size_sr, size_al]; omega
  have hN0 := HN.out
  clear HP HO HZ HK HN
  obtain ⟨x0, hx0⟩ : ∃ x, x = w1.heap.size := ⟨_, rfl⟩
  rw [← hx0] at hX hP hO hZ hK hN hN0
  simp only [← hx0]
  have hcl := clone_any (A := AA) (l := slots) cc (rows_bl1 HA.out hK) (by have := HL.out; omega)
  generalize ((w1.alloc (.cells #[.int .u32 0, .int .u64 0, .int .i64 0, .string ⟨#[]⟩, .slice none 0 0] 28)).setRow x0 #[.int .u32 num, .int .u64 lsn, .int .i64 kind, .string head, .slice AA slots.length cc]) = w2 at *
  have HX := Lib.hid hX
  have HP := Lib.hid hP
  have HO := Lib.hid hO
  have HZ := Lib.hid hZ
  have HK := Lib.hid hK
  have HN := Lib.hid hN
  have HN0 := Lib.hid hN0
  have HC := Lib.hid hcl
  have c4 := (pgCells hP).2.2.2.2
  clear hX hP hO hZ hK hN hN0 hcl hx0
  go_upto_region 9 with (go_at_call 49; refine HC.out.mono ?_; rintro e w3 ⟨v, rfl, ho1, hb1⟩; obtain ⟨AV, cv, rfl⟩ := own_sl ho1; have ho1 := own_le ho1 HK.out.size; have HP1 := Lib.hid (HP.out.step hb1); have HO1 := Lib.hid (HO.out.step hb1); have HZ1 := Lib.hid (HZ.out.step hb1); have HX1 := Lib.hid (HX.out.step hb1); have HK1 := Lib.hid (bstep HK.out hb1); have HN1 := Lib.hid (Nat.le_trans HN.out hb1.size); clear HN HK HP HO HZ HX; have HP := HP1; clear HP1; have HO := HO1; clear HO1; have HZ := HZ1; clear HZ1; have HX := HX1; clear HX1; have HK := HK1; clear HK1; have HN := HN1; clear HN1; have HR := Lib.hid ho1; have HB0 := Lib.hid HN0.out; clear hb1 ho1 HC c4; obtain ⟨cx0, cx1, cx2, cx3, cx4⟩ := pgCells HX.out; have fx1 := HX.out.frozen 1; have fx4 := HX.out.frozen 4)
  have hX : Blk ((w3.setCell ⟨x0, 4, none⟩ (.slice AV slots.length cv)).setCell ⟨x0, 1, none⟩ (.int .u64 l)) x0 28 #[.int .u32 num, .int .u64 l, .int .i64 kind, .string head, .slice AV slots.length cv] := (HX.out.set_ 4 (.slice AV slots.length cv)).set_ 1 (.int .u64 l)
  have hP := (HP.out.far (p := ⟨x0, 4, none⟩) (by have := HB0.out; show _ ≠ x0; omega) (.slice AV slots.length cv)).far (p := ⟨x0, 1, none⟩) (by have := HB0.out; show _ ≠ x0; omega) (.int .u64 l)
  have hO := (HO.out.far (p := ⟨x0, 4, none⟩) (by have := HB0.out; show _ ≠ x0; omega) (.slice AV slots.length cv)).far (p := ⟨x0, 1, none⟩) (by have := HB0.out; show _ ≠ x0; omega) (.int .u64 l)
  have hZ := (HZ.out.far (p := ⟨x0, 4, none⟩) (by have := HB0.out; show _ ≠ x0; omega) (.slice AV slots.length cv)).far (p := ⟨x0, 1, none⟩) (by have := HB0.out; show _ ≠ x0; omega) (.int .u64 l)
  have hR := own_set (b := x0) (o := 1) (u := .int .u64 l) (own_set (b := x0) (o := 4) (u := .slice AV slots.length cv) HR.out HX.out (by decide)) (HX.out.set_ 4 _) (by decide)
  have hK := bsetAt (o := 1) (bsetAt (o := 4) HK.out (b := x0) (by have := HB0.out; omega) (.slice AV slots.length cv)) (b := x0) (by have := HB0.out; omega) (.int .u64 l)
  have hN : x0 + 1 ≤ ((w3.setCell ⟨x0, 4, none⟩ (.slice AV slots.length cv)).setCell ⟨x0, 1, none⟩ (.int .u64 l)).heap.size := by simpa using HN.out
  clear HX HP HO HZ HR HK HN HA HS HE cx0 cx1 cx2 cx3 cx4 fx1 fx4
  generalize (w3.setCell ⟨x0, 4, none⟩ (.slice AV slots.length cv)).setCell ⟨x0, 1, none⟩ (.int .u64 l) = w4 at *
  have HX := Lib.hid hX
  have HP := Lib.hid hP
  have HO := Lib.hid hO
  have HZ := Lib.hid hZ
  have HR := Lib.hid hR
  have HK := Lib.hid hK
  have HN := Lib.hid hN
  obtain ⟨co0, co1, co2, co3⟩ := opCells hO
  obtain ⟨cx0, cx1, cx2, cx3, cx4⟩ := pgCells hX
  clear hX hP hO hZ hR hK hN
  have H64 : Hid (sl.length ≤ 64) := Lib.hid (by rw [HSl.out, List.length_set]; exact HL.out)
  obtain ⟨g, hgv⟩ := own_some HR.out (by have := Hp.out; omega)
  subst hgv
  have n0 : (0 : Int) < slots.length := by have := Hp.out; omega
  have i0 : (0 : Int) ≤ i := by omega
  have i1 : (i : Int) ≤ p.size := by have := HI.out; omega
  have i2 : (i : Int) + s.size ≤ p.size := by have := HI.out; omega
  have i3 : (0 : Int) ≤ (i : Int) + s.size := by omega
  have i4 : (p.size : Int) ≤ 140737488351232 := by have := HPs.out; omega
  have cg := HR.out.cellAt 0 (by have := Hp.out; omega)
  rw [strV_at slots 0 Hp.out, Hp0.out Hp.out] at cg
  have fg := HR.out.frozenAt 0
  have hne : g ≠ w.heap.size + 1 := fun e => own_ne_blk HR.out HO.out (by decide) (by rw [e]; rfl)
  have hne' : w.heap.size + 1 ≠ g := fun e => hne e.symm
  have hnx : g ≠ x0 := fun e => own_ne_blk HR.out HX.out (by decide) (by rw [e]; rfl)
  have hnx' : x0 ≠ g := fun e => hnx e.symm
  go_upto_region 24 with fail
  go_region
  rw [HQ.out]
  clear n0 i0 i1 i2 i3 i4 hnx hnx' 
  have hst := HR.out.stored 0 (.string q)
  have hne3 := own_ne_blk HR.out HX.out (by decide)
  have hne2 := own_ne_blk HR.out HZ.out (by decide)
  have hX := (HX.out.grown hst.2 hne3.symm).drew
  have hZ := (HZ.out.grown hst.2 hne2.symm).drew
  have hK0 := bgrown HK.out hst.2 (fun k e => (HR.out.lt k e).1)
  have hK : Below w.heap.size w (w4.setCell ⟨g, 0, none⟩ (.string q)).drew := ⟨hK0.os, hK0.tape, hK0.output, hK0.size, hK0.block⟩
  have hR := hst.1
  rw [strV_set, ← HSl.out] at hR
  have hR := hR.drew
  clear hK0 HX HZ HK HR HP HO HN HN0 co0 co1 co2 co3 cx0 cx1 cx2 cx3 cx4 cg fg hst hne hne' hne2 hne3
  generalize (w4.setCell ⟨g, 0, none⟩ (.string q)).drew = w5 at *
  have HX := Lib.hid hX
  have HZ := Lib.hid hZ
  have HK := Lib.hid hK
  have HR := Lib.hid hR
  clear hX hZ hK hR
  have hle : slots.length = sl.length := by rw [HSl.out, List.length_set]
  rw [hle] at HX HR
  clear hle
  have hrm := room_any num l kind head sl (some ⟨g, 0, none⟩) cv w5 (own_rdrows HR.out) H64.out HSZ.out HHZ.out
  have HRm := Lib.hid hrm
  clear hrm
  have hf1 : (485 : Int) - (head).size - slotsN (sl) < 0 → finR num l (kind) (head) (sl) = (0, 0, 0, ⟨#[]⟩, [], 30) := fun h => if_pos h
  have hf2 : ¬ (485 : Int) - (head).size - slotsN (sl) < 0 → finR num l (kind) (head) (sl) = (num, l, kind, head, sl, 0) := fun h => if_neg h
  have HF1 := Lib.hid hf1
  have HF2 := Lib.hid hf2
  clear hf1 hf2
  generalize hrm : (485 : Int) - (head).size - slotsN (sl) = rm at *
  by_cases hr : rm < 0
  · have d5 : decide (rm < 0) = true := by simpa using hr
    go_wp2_with (first | (refine wpList_load_row rfl 28 (.tmp 10) rfl x0 rfl 28 #[.int .u32 num, .int .u64 l, .int .i64 kind, .string head, .slice (some ⟨g, 0, none⟩) sl.length cv] (0, 0) _ HX.out Try.underlying28 rfl (by kernel_rfl) ?_) | (go_at_call 14; refine HRm.out.mono ?_; rintro e w9 ⟨rfl, hb9⟩; have HX1 := Lib.hid (HX.out.step hb9); have HZ1 := Lib.hid (HZ.out.step hb9); have HR1 := Lib.hid (own_below HR.out hb9); have HK1 := Lib.hid (bstep HK.out hb9); clear HX HZ HR HK hb9; have HX := HX1; have HZ := HZ1; have HR := HR1; have HK := HK1; clear HX1 HZ1 HR1 HK1) | (refine wpList_store_row rfl 28 (.tmp 6) (.tmp 119) rfl (w.heap.size + 2) #[.int .u32 0, .int .u64 0, .int .i64 0, .string ⟨#[]⟩, .slice none 0 0] rfl rfl 28 #[.int .u32 0, .int .u64 0, .int .i64 0, .string ⟨#[]⟩, .slice none 0 0] HZ.out (by kernel_rfl) rfl (by simp [Value.oneCell']) ?_))
    refine bodyPost_ret (v := .tuple #[.agg #[.int .u32 0, .int .u64 0, .int .i64 0, .string ⟨#[]⟩, .slice none 0 0], .int .i64 30]) (by exact results_ct (p := 6) (q := 7) rfl _ _ (w.heap.size + 2) 28 #[.int .u32 0, .int .u64 0, .int .i64 0, .string ⟨#[]⟩, .slice none 0 0] (0, 0) _ rfl (blk_setRow HZ.out) Try.underlying28 rfl (by kernel_rfl)) rfl ?_
    rw [HF1.out hr]
    exact ⟨_, rfl, World.ownsRow_nil _ _ _ _, setRow_below HK.out (by omega) _⟩
  · have d5 : decide (rm < 0) = false := by simpa using hr
    go_wp2_with (first | (refine wpList_load_row rfl 28 (.tmp 10) rfl x0 rfl 28 #[.int .u32 num, .int .u64 l, .int .i64 kind, .string head, .slice (some ⟨g, 0, none⟩) sl.length cv] (0, 0) _ HX.out Try.underlying28 rfl (by kernel_rfl) ?_) | (go_at_call 14; refine HRm.out.mono ?_; rintro e w9 ⟨rfl, hb9⟩; have HX1 := Lib.hid (HX.out.step hb9); have HZ1 := Lib.hid (HZ.out.step hb9); have HR1 := Lib.hid (own_below HR.out hb9); have HK1 := Lib.hid (bstep HK.out hb9); clear HX HZ HR HK hb9; have HX := HX1; have HZ := HZ1; have HR := HR1; have HK := HK1; clear HX1 HZ1 HR1 HK1) | (refine wpList_store_row rfl 28 (.tmp 6) (.tmp 120) rfl (w.heap.size + 2) #[.int .u32 num, .int .u64 l, .int .i64 kind, .string head, .slice (some ⟨g, 0, none⟩) sl.length cv] rfl rfl 28 #[.int .u32 0, .int .u64 0, .int .i64 0, .string ⟨#[]⟩, .slice none 0 0] HZ.out (by kernel_rfl) rfl (by simp [Value.oneCell']) ?_))
    refine bodyPost_ret (v := .tuple #[.agg #[.int .u32 num, .int .u64 l, .int .i64 kind, .string head, .slice (some ⟨g, 0, none⟩) sl.length cv], .int .i64 0]) (by exact results_ct (p := 6) (q := 7) rfl _ _ (w.heap.size + 2) 28 #[.int .u32 num, .int .u64 l, .int .i64 kind, .string head, .slice (some ⟨g, 0, none⟩) sl.length cv] (0, 0) _ rfl (blk_setRow HZ.out) Try.underlying28 rfl (by kernel_rfl)) rfl ?_
    rw [HF2.out hr]
    exact ⟨_, rfl, own_setRow HR.out HZ.out (by decide), setRow_below HK.out (by omega) _⟩
set_option maxHeartbeats 3000000 in
theorem apply_k7 (num lsn kind : Int) (head : ByteArray) (slots : List ByteArray) (AA : Option Addr) (cc : Nat) (a : Int) (s o : ByteArray) (l : Int) (w : World) (hA : RdRows strC 1 w AA slots) (h64 : slots.length ≤ 64) (hE : opEs 7 a s o = 0) (hS : ∀ w', Below w.heap.size w w' → Calls Try.prog 48 #[.agg #[.int .u32 num, .int .u64 lsn, .int .i64 kind, .string head, .slice AA slots.length cc], .agg #[.int .i64 7, .int .i64 a, .string s, .string o]] w' fun e w'' => e = .returned (.int .i64 0) ∧ Below w'.heap.size w' w'') (KD : Int) (HD : ByteArray) (h1 : 1 ≤ s.size) (hKD : ∀ h : 0 < s.size, wrap64 ((s[0]'h).toNat : Int) = KD) (hHD : s.extract 1 s.size = HD) (hsz : ∀ x ∈ slots, x.size ≤ 140737488351232) (hhz : (HD).size ≤ 140737488351232) :
    Calls Try.prog 23 #[.agg #[.int .u32 num, .int .u64 lsn, .int .i64 kind, .string head, .slice AA slots.length cc], .agg #[.int .i64 7, .int .i64 a, .string s, .string o], .int .u64 l] w (apPost w (finR num l (KD) (HD) (slots))) := by
  have Hh1 := Lib.hid h1
  have HKD := Lib.hid hKD
  have HHD := Lib.hid hHD
  clear h1 hKD hHD
  have HSZ := Lib.hid hsz
  have HHZ := Lib.hid hhz
  clear hsz hhz
  have HA := Lib.hid hA
  have HL := Lib.hid h64
  have HS := Lib.hid hS
  have HE := Lib.hid hE
  clear hA h64 hS hE
  go_enter Try.func23, Try.ntmps23
  go_upto_region 1 with fail
  have hP : Blk (((w.alloc (.cells #[.int .u32 num, .int .u64 lsn, .int .i64 kind, .string head, .slice AA slots.length cc] 28)).alloc (.cells #[.int .i64 7, .int .i64 a, .string s, .string o] 54)).alloc (.cells #[.int .u32 0, .int .u64 0, .int .i64 0, .string ⟨#[]⟩, .slice none 0 0] 28)) w.heap.size 28 #[.int .u32 num, .int .u64 lsn, .int .i64 kind, .string head, .slice AA slots.length cc] := ((Blk.new w 28 #[.int .u32 num, .int .u64 lsn, .int .i64 kind, .string head, .slice AA slots.length cc]).alloc _).alloc _
  have hO : Blk (((w.alloc (.cells #[.int .u32 num, .int .u64 lsn, .int .i64 kind, .string head, .slice AA slots.length cc] 28)).alloc (.cells #[.int .i64 7, .int .i64 a, .string s, .string o] 54)).alloc (.cells #[.int .u32 0, .int .u64 0, .int .i64 0, .string ⟨#[]⟩, .slice none 0 0] 28)) (w.heap.size + 1) 54 #[.int .i64 7, .int .i64 a, .string s, .string o] := by
    have := (Blk.new (w.alloc (.cells #[.int .u32 num, .int .u64 lsn, .int .i64 kind, .string head, .slice AA slots.length cc] 28)) 54 #[.int .i64 7, .int .i64 a, .string s, .string o]).alloc (.cells #[.int .u32 0, .int .u64 0, .int .i64 0, .string ⟨#[]⟩, .slice none 0 0] 28)
    rwa [size_al] at this
  have hZ : Blk (((w.alloc (.cells #[.int .u32 num, .int .u64 lsn, .int .i64 kind, .string head, .slice AA slots.length cc] 28)).alloc (.cells #[.int .i64 7, .int .i64 a, .string s, .string o] 54)).alloc (.cells #[.int .u32 0, .int .u64 0, .int .i64 0, .string ⟨#[]⟩, .slice none 0 0] 28)) (w.heap.size + 2) 28 #[.int .u32 0, .int .u64 0, .int .i64 0, .string ⟨#[]⟩, .slice none 0 0] := by
    have := Blk.new ((w.alloc (.cells #[.int .u32 num, .int .u64 lsn, .int .i64 kind, .string head, .slice AA slots.length cc] 28)).alloc (.cells #[.int .i64 7, .int .i64 a, .string s, .string o] 54)) 28 #[.int .u32 0, .int .u64 0, .int .i64 0, .string ⟨#[]⟩, .slice none 0 0]
    rwa [size_al, size_al] at this
  have hK := balloc (balloc (balloc (Below.refl w.heap.size w) (.cells #[.int .u32 num, .int .u64 lsn, .int .i64 kind, .string head, .slice AA slots.length cc] 28)) (.cells #[.int .i64 7, .int .i64 a, .string s, .string o] 54)) (.cells #[.int .u32 0, .int .u64 0, .int .i64 0, .string ⟨#[]⟩, .slice none 0 0] 28)
  have hN : w.heap.size + 3 ≤ (((w.alloc (.cells #[.int .u32 num, .int .u64 lsn, .int .i64 kind, .string head, .slice AA slots.length cc] 28)).alloc (.cells #[.int .i64 7, .int .i64 a, .string s, .string o] 54)).alloc (.cells #[.int .u32 0, .int .u64 0, .int .i64 0, .string ⟨#[]⟩, .slice none 0 0] 28)).heap.size := by rw [size_al, size_al, size_al]; omega
  have HP := Lib.hid hP
  have HO := Lib.hid hO
  have HZ := Lib.hid hZ
  have HK := Lib.hid hK
  have HN := Lib.hid hN
  clear hP hO hZ hK hN
  generalize ((w.alloc (.cells #[.int .u32 num, .int .u64 lsn, .int .i64 kind, .string head, .slice AA slots.length cc] 28)).alloc (.cells #[.int .i64 7, .int .i64 a, .string s, .string o] 54)).alloc (.cells #[.int .u32 0, .int .u64 0, .int .i64 0, .string ⟨#[]⟩, .slice none 0 0] 28) = w0 at *
  go_upto_region 7 with (first | (refine wpList_load_row rfl 28 (.tmp 3) rfl w.heap.size rfl 28 #[.int .u32 num, .int .u64 lsn, .int .i64 kind, .string head, .slice AA slots.length cc] (0, 0) _ HP.out Try.underlying28 rfl (by kernel_rfl) ?_) | (refine wpList_load_row rfl 54 (.tmp 4) rfl (w.heap.size + 1) rfl 54 #[.int .i64 7, .int .i64 a, .string s, .string o] (0, 0) _ HO.out Try.underlying54 rfl (by kernel_rfl) ?_) | (go_at_call 47; refine (pcheck_str 7 a s o _).mono ?_; rintro e w1 ⟨rfl, hb1⟩; rw [HE.out]; have HP1 := Lib.hid (HP.out.step hb1); have HO1 := Lib.hid (HO.out.step hb1); have HZ1 := Lib.hid (HZ.out.step hb1); have HK1 := Lib.hid (bstep HK.out hb1); have HN1 := Lib.hid (Nat.le_trans HN.out hb1.size); clear HN HK HP HO HZ; have HP := HP1; clear HP1; have HO := HO1; clear HO1; have HZ := HZ1; clear HZ1; have HK := HK1; clear HK1; have HN := HN1; clear HN1; clear hb1) | (go_at_call 48; refine (HS.out _ HK.out).mono ?_; rintro e w1 ⟨rfl, hb1⟩; have HP1 := Lib.hid (HP.out.step hb1); have HO1 := Lib.hid (HO.out.step hb1); have HZ1 := Lib.hid (HZ.out.step hb1); have HK1 := Lib.hid (bstep HK.out hb1); have HN1 := Lib.hid (Nat.le_trans HN.out hb1.size); clear HN HK HP HO HZ; have HP := HP1; clear HP1; have HO := HO1; clear HO1; have HZ := HZ1; clear HZ1; have HK := HK1; clear HK1; have HN := HN1; clear HN1; clear hb1))
  go_upto_region 8 with (first | (refine wpList_load_row rfl 28 (.tmp 3) rfl w.heap.size rfl 28 #[.int .u32 num, .int .u64 lsn, .int .i64 kind, .string head, .slice AA slots.length cc] (0, 0) _ HP.out Try.underlying28 rfl (by kernel_rfl) ?_) | (refine wpList_store_row rfl 28 (.tmp 10) (.tmp 25) rfl w1.heap.size #[.int .u32 num, .int .u64 lsn, .int .i64 kind, .string head, .slice AA slots.length cc] rfl rfl 28 #[.int .u32 0, .int .u64 0, .int .i64 0, .string ⟨#[]⟩, .slice none 0 0] (Blk.new w1 28 #[.int .u32 0, .int .u64 0, .int .i64 0, .string ⟨#[]⟩, .slice none 0 0]) (by kernel_rfl) rfl (by simp [Value.oneCell']) ?_))
  have hX := blk_setRow (cs' := #[.int .u32 num, .int .u64 lsn, .int .i64 kind, .string head, .slice AA slots.length cc]) (Blk.new w1 28 #[.int .u32 0, .int .u64 0, .int .i64 0, .string ⟨#[]⟩, .slice none 0 0])
  have hK := setRow_below (balloc HK.out (.cells #[.int .u32 0, .int .u64 0, .int .i64 0, .string ⟨#[]⟩, .slice none 0 0] 28)) (g := w1.heap.size) HK.out.size #[.int .u32 num, .int .u64 lsn, .int .i64 kind, .string head, .slice AA slots.length cc]
  have hP := blk_setRow_far (HP.out.alloc (.cells #[.int .u32 0, .int .u64 0, .int .i64 0, .string ⟨#[]⟩, .slice none 0 0] 28)) (b := w1.heap.size) #[.int .u32 num, .int .u64 lsn, .int .i64 kind, .string head, .slice AA slots.length cc] (by have := HN.out; omega)
  have hO := blk_setRow_far (HO.out.alloc (.cells #[.int .u32 0, .int .u64 0, .int .i64 0, .string ⟨#[]⟩, .slice none 0 0] 28)) (b := w1.heap.size) #[.int .u32 num, .int .u64 lsn, .int .i64 kind, .string head, .slice AA slots.length cc] (by have := HN.out; omega)
  have hZ := blk_setRow_far (HZ.out.alloc (.cells #[.int .u32 0, .int .u64 0, .int .i64 0, .string ⟨#[]⟩, .slice none 0 0] 28)) (b := w1.heap.size) #[.int .u32 num, .int .u64 lsn, .int .i64 kind, .string head, .slice AA slots.length cc] (by have := HN.out; omega)
  have hN : w1.heap.size + 1 ≤ ((w1.alloc (.cells #[.int .u32 0, .int .u64 0, .int .i64 0, .string ⟨#[]⟩, .slice none 0 0] 28)).setRow w1.heap.size #[.int .u32 num, .int .u64 lsn, .int .i64 kind, .string head, .slice AA slots.length cc]).heap.size := by rw [size_sr, size_al]; omega
  have hN0 := HN.out
  clear HP HO HZ HK HN
  obtain ⟨x0, hx0⟩ : ∃ x, x = w1.heap.size := ⟨_, rfl⟩
  rw [← hx0] at hX hP hO hZ hK hN hN0
  simp only [← hx0]
  have hcl := clone_any (A := AA) (l := slots) cc (rows_bl1 HA.out hK) (by have := HL.out; omega)
  generalize ((w1.alloc (.cells #[.int .u32 0, .int .u64 0, .int .i64 0, .string ⟨#[]⟩, .slice none 0 0] 28)).setRow x0 #[.int .u32 num, .int .u64 lsn, .int .i64 kind, .string head, .slice AA slots.length cc]) = w2 at *
  have HX := Lib.hid hX
  have HP := Lib.hid hP
  have HO := Lib.hid hO
  have HZ := Lib.hid hZ
  have HK := Lib.hid hK
  have HN := Lib.hid hN
  have HN0 := Lib.hid hN0
  have HC := Lib.hid hcl
  have c4 := (pgCells hP).2.2.2.2
  clear hX hP hO hZ hK hN hN0 hcl hx0
  go_upto_region 9 with (go_at_call 49; refine HC.out.mono ?_; rintro e w3 ⟨v, rfl, ho1, hb1⟩; obtain ⟨AV, cv, rfl⟩ := own_sl ho1; have ho1 := own_le ho1 HK.out.size; have HP1 := Lib.hid (HP.out.step hb1); have HO1 := Lib.hid (HO.out.step hb1); have HZ1 := Lib.hid (HZ.out.step hb1); have HX1 := Lib.hid (HX.out.step hb1); have HK1 := Lib.hid (bstep HK.out hb1); have HN1 := Lib.hid (Nat.le_trans HN.out hb1.size); clear HN HK HP HO HZ HX; have HP := HP1; clear HP1; have HO := HO1; clear HO1; have HZ := HZ1; clear HZ1; have HX := HX1; clear HX1; have HK := HK1; clear HK1; have HN := HN1; clear HN1; have HR := Lib.hid ho1; have HB0 := Lib.hid HN0.out; clear hb1 ho1 HC c4; obtain ⟨cx0, cx1, cx2, cx3, cx4⟩ := pgCells HX.out; have fx1 := HX.out.frozen 1; have fx4 := HX.out.frozen 4)
  have hX : Blk ((w3.setCell ⟨x0, 4, none⟩ (.slice AV slots.length cv)).setCell ⟨x0, 1, none⟩ (.int .u64 l)) x0 28 #[.int .u32 num, .int .u64 l, .int .i64 kind, .string head, .slice AV slots.length cv] := (HX.out.set_ 4 (.slice AV slots.length cv)).set_ 1 (.int .u64 l)
  have hP := (HP.out.far (p := ⟨x0, 4, none⟩) (by have := HB0.out; show _ ≠ x0; omega) (.slice AV slots.length cv)).far (p := ⟨x0, 1, none⟩) (by have := HB0.out; show _ ≠ x0; omega) (.int .u64 l)
  have hO := (HO.out.far (p := ⟨x0, 4, none⟩) (by have := HB0.out; show _ ≠ x0; omega) (.slice AV slots.length cv)).far (p := ⟨x0, 1, none⟩) (by have := HB0.out; show _ ≠ x0; omega) (.int .u64 l)
  have hZ := (HZ.out.far (p := ⟨x0, 4, none⟩) (by have := HB0.out; show _ ≠ x0; omega) (.slice AV slots.length cv)).far (p := ⟨x0, 1, none⟩) (by have := HB0.out; show _ ≠ x0; omega) (.int .u64 l)
  have hR := own_set (b := x0) (o := 1) (u := .int .u64 l) (own_set (b := x0) (o := 4) (u := .slice AV slots.length cv) HR.out HX.out (by decide)) (HX.out.set_ 4 _) (by decide)
  have hK := bsetAt (o := 1) (bsetAt (o := 4) HK.out (b := x0) (by have := HB0.out; omega) (.slice AV slots.length cv)) (b := x0) (by have := HB0.out; omega) (.int .u64 l)
  have hN : x0 + 1 ≤ ((w3.setCell ⟨x0, 4, none⟩ (.slice AV slots.length cv)).setCell ⟨x0, 1, none⟩ (.int .u64 l)).heap.size := by simpa using HN.out
  clear HX HP HO HZ HR HK HN HA HS HE cx0 cx1 cx2 cx3 cx4 fx1 fx4
  generalize (w3.setCell ⟨x0, 4, none⟩ (.slice AV slots.length cv)).setCell ⟨x0, 1, none⟩ (.int .u64 l) = w4 at *
  have HX := Lib.hid hX
  have HP := Lib.hid hP
  have HO := Lib.hid hO
  have HZ := Lib.hid hZ
  have HR := Lib.hid hR
  have HK := Lib.hid hK
  have HN := Lib.hid hN
  obtain ⟨co0, co1, co2, co3⟩ := opCells hO
  obtain ⟨cx0, cx1, cx2, cx3, cx4⟩ := pgCells hX
  clear hX hP hO hZ hR hK hN
  have H64 := HL
  have fx2 := HX.out.frozen 2
  have fx3 := HX.out.frozen 3
  have hn1 : x0 ≠ w.heap.size + 1 := by have := HB0.out; omega
  have hn2 : w.heap.size + 1 ≠ x0 := by have := HB0.out; omega
  have s0 : 0 < s.size := by have := Hh1.out; omega
  have s1 : (1 : Int) ≤ s.size := by have := Hh1.out; omega
  have s2 : (0 : Int) < s.size := by have := Hh1.out; omega
  go_upto_region 21 with fail
  go_region
  rw [HKD.out s0, HHD.out]
  clear fx2 fx3 hn1 hn2
  have hX : Blk (((w4).setCell ⟨x0, 2, none⟩ (.int .i64 KD)).setCell ⟨x0, 3, none⟩ (.string HD)) x0 28 #[.int .u32 num, .int .u64 l, .int .i64 KD, .string HD, .slice AV slots.length cv] := ((HX.out.set_ 2 (.int .i64 KD))).set_ 3 (.string HD)
  have hZ := ((HZ.out).far (p := ⟨x0, 2, none⟩) (by have := HB0.out; show _ ≠ x0; omega) (.int .i64 KD)).far (p := ⟨x0, 3, none⟩) (by have := HB0.out; show _ ≠ x0; omega) (.string HD)
  have hK := (bsetAt (o := 3) ((bsetAt (o := 2) (HK.out) (b := x0) (by have := HB0.out; omega) (.int .i64 KD))) (b := x0) (by have := HB0.out; omega) (.string HD))
  have hR := (own_set (b := x0) (o := 3) (u := .string HD) ((own_set (b := x0) (o := 2) (u := .int .i64 KD) (HR.out) (HX.out) (by decide))) ((HX.out).set_ 2 (.int .i64 KD)) (by decide))
  clear HX HZ HK HR HP HO HN HN0 co0 co1 co2 co3 cx0 cx1 cx2 cx3 cx4
  have hX := hX.drew
  have hZ := hZ.drew
  have hR := hR.drew
  have hK : Below w.heap.size w (((w4).setCell ⟨x0, 2, none⟩ (.int .i64 KD)).setCell ⟨x0, 3, none⟩ (.string HD)).drew := ⟨hK.os, hK.tape, hK.output, hK.size, hK.block⟩
  generalize (((w4).setCell ⟨x0, 2, none⟩ (.int .i64 KD)).setCell ⟨x0, 3, none⟩ (.string HD)).drew = w5 at *
  have HX := Lib.hid hX
  have HZ := Lib.hid hZ
  have HK := Lib.hid hK
  have HR := Lib.hid hR
  clear hX hZ hK hR
  have hrm := room_any num l KD HD slots AV cv w5 (own_rdrows HR.out) H64.out HSZ.out HHZ.out
  have HRm := Lib.hid hrm
  clear hrm
  have hf1 : (485 : Int) - (HD).size - slotsN (slots) < 0 → finR num l (KD) (HD) (slots) = (0, 0, 0, ⟨#[]⟩, [], 30) := fun h => if_pos h
  have hf2 : ¬ (485 : Int) - (HD).size - slotsN (slots) < 0 → finR num l (KD) (HD) (slots) = (num, l, KD, HD, slots, 0) := fun h => if_neg h
  have HF1 := Lib.hid hf1
  have HF2 := Lib.hid hf2
  clear hf1 hf2
  generalize hrm : (485 : Int) - (HD).size - slotsN (slots) = rm at *
  by_cases hr : rm < 0
  · have d5 : decide (rm < 0) = true := by simpa using hr
    go_wp2_with (first | (refine wpList_load_row rfl 28 (.tmp 10) rfl x0 rfl 28 #[.int .u32 num, .int .u64 l, .int .i64 KD, .string HD, .slice AV slots.length cv] (0, 0) _ HX.out Try.underlying28 rfl (by kernel_rfl) ?_) | (go_at_call 14; refine HRm.out.mono ?_; rintro e w9 ⟨rfl, hb9⟩; have HX1 := Lib.hid (HX.out.step hb9); have HZ1 := Lib.hid (HZ.out.step hb9); have HR1 := Lib.hid (own_below HR.out hb9); have HK1 := Lib.hid (bstep HK.out hb9); clear HX HZ HR HK hb9; have HX := HX1; have HZ := HZ1; have HR := HR1; have HK := HK1; clear HX1 HZ1 HR1 HK1) | (refine wpList_store_row rfl 28 (.tmp 6) (.tmp 119) rfl (w.heap.size + 2) #[.int .u32 0, .int .u64 0, .int .i64 0, .string ⟨#[]⟩, .slice none 0 0] rfl rfl 28 #[.int .u32 0, .int .u64 0, .int .i64 0, .string ⟨#[]⟩, .slice none 0 0] HZ.out (by kernel_rfl) rfl (by simp [Value.oneCell']) ?_))
    refine bodyPost_ret (v := .tuple #[.agg #[.int .u32 0, .int .u64 0, .int .i64 0, .string ⟨#[]⟩, .slice none 0 0], .int .i64 30]) (by exact results_ct (p := 6) (q := 7) rfl _ _ (w.heap.size + 2) 28 #[.int .u32 0, .int .u64 0, .int .i64 0, .string ⟨#[]⟩, .slice none 0 0] (0, 0) _ rfl (blk_setRow HZ.out) Try.underlying28 rfl (by kernel_rfl)) rfl ?_
    rw [HF1.out hr]
    exact ⟨_, rfl, World.ownsRow_nil _ _ _ _, setRow_below HK.out (by omega) _⟩
  · have d5 : decide (rm < 0) = false := by simpa using hr
    go_wp2_with (first | (refine wpList_load_row rfl 28 (.tmp 10) rfl x0 rfl 28 #[.int .u32 num, .int .u64 l, .int .i64 KD, .string HD, .slice AV slots.length cv] (0, 0) _ HX.out Try.underlying28 rfl (by kernel_rfl) ?_) | (go_at_call 14; refine HRm.out.mono ?_; rintro e w9 ⟨rfl, hb9⟩; have HX1 := Lib.hid (HX.out.step hb9); have HZ1 := Lib.hid (HZ.out.step hb9); have HR1 := Lib.hid (own_below HR.out hb9); have HK1 := Lib.hid (bstep HK.out hb9); clear HX HZ HR HK hb9; have HX := HX1; have HZ := HZ1; have HR := HR1; have HK := HK1; clear HX1 HZ1 HR1 HK1) | (refine wpList_store_row rfl 28 (.tmp 6) (.tmp 120) rfl (w.heap.size + 2) #[.int .u32 num, .int .u64 l, .int .i64 KD, .string HD, .slice AV slots.length cv] rfl rfl 28 #[.int .u32 0, .int .u64 0, .int .i64 0, .string ⟨#[]⟩, .slice none 0 0] HZ.out (by kernel_rfl) rfl (by simp [Value.oneCell']) ?_))
    refine bodyPost_ret (v := .tuple #[.agg #[.int .u32 num, .int .u64 l, .int .i64 KD, .string HD, .slice AV slots.length cv], .int .i64 0]) (by exact results_ct (p := 6) (q := 7) rfl _ _ (w.heap.size + 2) 28 #[.int .u32 num, .int .u64 l, .int .i64 KD, .string HD, .slice AV slots.length cv] (0, 0) _ rfl (blk_setRow HZ.out) Try.underlying28 rfl (by kernel_rfl)) rfl ?_
    rw [HF2.out hr]
    exact ⟨_, rfl, own_setRow HR.out HZ.out (by decide), setRow_below HK.out (by omega) _⟩
set_option maxHeartbeats 3000000 in
theorem apply_k5 (num lsn kind : Int) (head : ByteArray) (slots : List ByteArray) (AA : Option Addr) (cc : Nat) (a : Int) (s o : ByteArray) (l : Int) (w : World) (hA : RdRows strC 1 w AA slots) (h64 : slots.length ≤ 64) (hE : opEs 5 a s o = 0) (hS : ∀ w', Below w.heap.size w w' → Calls Try.prog 48 #[.agg #[.int .u32 num, .int .u64 lsn, .int .i64 kind, .string head, .slice AA slots.length cc], .agg #[.int .i64 5, .int .i64 a, .string s, .string o]] w' fun e w'' => e = .returned (.int .i64 0) ∧ Below w'.heap.size w' w'')  (hsz : ∀ x ∈ slots, x.size ≤ 140737488351232) (hhz : (s).size ≤ 140737488351232) :
    Calls Try.prog 23 #[.agg #[.int .u32 num, .int .u64 lsn, .int .i64 kind, .string head, .slice AA slots.length cc], .agg #[.int .i64 5, .int .i64 a, .string s, .string o], .int .u64 l] w (apPost w (finR num l (kind) (s) (slots))) := by
  have HSZ := Lib.hid hsz
  have HHZ := Lib.hid hhz
  clear hsz hhz
  have HA := Lib.hid hA
  have HL := Lib.hid h64
  have HS := Lib.hid hS
  have HE := Lib.hid hE
  clear hA h64 hS hE
  go_enter Try.func23, Try.ntmps23
  go_upto_region 1 with fail
  have hP : Blk (((w.alloc (.cells #[.int .u32 num, .int .u64 lsn, .int .i64 kind, .string head, .slice AA slots.length cc] 28)).alloc (.cells #[.int .i64 5, .int .i64 a, .string s, .string o] 54)).alloc (.cells #[.int .u32 0, .int .u64 0, .int .i64 0, .string ⟨#[]⟩, .slice none 0 0] 28)) w.heap.size 28 #[.int .u32 num, .int .u64 lsn, .int .i64 kind, .string head, .slice AA slots.length cc] := ((Blk.new w 28 #[.int .u32 num, .int .u64 lsn, .int .i64 kind, .string head, .slice AA slots.length cc]).alloc _).alloc _
  have hO : Blk (((w.alloc (.cells #[.int .u32 num, .int .u64 lsn, .int .i64 kind, .string head, .slice AA slots.length cc] 28)).alloc (.cells #[.int .i64 5, .int .i64 a, .string s, .string o] 54)).alloc (.cells #[.int .u32 0, .int .u64 0, .int .i64 0, .string ⟨#[]⟩, .slice none 0 0] 28)) (w.heap.size + 1) 54 #[.int .i64 5, .int .i64 a, .string s, .string o] := by
    have := (Blk.new (w.alloc (.cells #[.int .u32 num, .int .u64 lsn, .int .i64 kind, .string head, .slice AA slots.length cc] 28)) 54 #[.int .i64 5, .int .i64 a, .string s, .string o]).alloc (.cells #[.int .u32 0, .int .u64 0, .int .i64 0, .string ⟨#[]⟩, .slice none 0 0] 28)
    rwa [size_al] at this
  have hZ : Blk (((w.alloc (.cells #[.int .u32 num, .int .u64 lsn, .int .i64 kind, .string head, .slice AA slots.length cc] 28)).alloc (.cells #[.int .i64 5, .int .i64 a, .string s, .string o] 54)).alloc (.cells #[.int .u32 0, .int .u64 0, .int .i64 0, .string ⟨#[]⟩, .slice none 0 0] 28)) (w.heap.size + 2) 28 #[.int .u32 0, .int .u64 0, .int .i64 0, .string ⟨#[]⟩, .slice none 0 0] := by
    have := Blk.new ((w.alloc (.cells #[.int .u32 num, .int .u64 lsn, .int .i64 kind, .string head, .slice AA slots.length cc] 28)).alloc (.cells #[.int .i64 5, .int .i64 a, .string s, .string o] 54)) 28 #[.int .u32 0, .int .u64 0, .int .i64 0, .string ⟨#[]⟩, .slice none 0 0]
    rwa [size_al, size_al] at this
  have hK := balloc (balloc (balloc (Below.refl w.heap.size w) (.cells #[.int .u32 num, .int .u64 lsn, .int .i64 kind, .string head, .slice AA slots.length cc] 28)) (.cells #[.int .i64 5, .int .i64 a, .string s, .string o] 54)) (.cells #[.int .u32 0, .int .u64 0, .int .i64 0, .string ⟨#[]⟩, .slice none 0 0] 28)
  have hN : w.heap.size + 3 ≤ (((w.alloc (.cells #[.int .u32 num, .int .u64 lsn, .int .i64 kind, .string head, .slice AA slots.length cc] 28)).alloc (.cells #[.int .i64 5, .int .i64 a, .string s, .string o] 54)).alloc (.cells #[.int .u32 0, .int .u64 0, .int .i64 0, .string ⟨#[]⟩, .slice none 0 0] 28)).heap.size := by rw [size_al, size_al, size_al]; omega
  have HP := Lib.hid hP
  have HO := Lib.hid hO
  have HZ := Lib.hid hZ
  have HK := Lib.hid hK
  have HN := Lib.hid hN
  clear hP hO hZ hK hN
  generalize ((w.alloc (.cells #[.int .u32 num, .int .u64 lsn, .int .i64 kind, .string head, .slice AA slots.length cc] 28)).alloc (.cells #[.int .i64 5, .int .i64 a, .string s, .string o] 54)).alloc (.cells #[.int .u32 0, .int .u64 0, .int .i64 0, .string ⟨#[]⟩, .slice none 0 0] 28) = w0 at *
  go_upto_region 7 with (first | (refine wpList_load_row rfl 28 (.tmp 3) rfl w.heap.size rfl 28 #[.int .u32 num, .int .u64 lsn, .int .i64 kind, .string head, .slice AA slots.length cc] (0, 0) _ HP.out Try.underlying28 rfl (by kernel_rfl) ?_) | (refine wpList_load_row rfl 54 (.tmp 4) rfl (w.heap.size + 1) rfl 54 #[.int .i64 5, .int .i64 a, .string s, .string o] (0, 0) _ HO.out Try.underlying54 rfl (by kernel_rfl) ?_) | (go_at_call 47; refine (pcheck_str 5 a s o _).mono ?_; rintro e w1 ⟨rfl, hb1⟩; rw [HE.out]; have HP1 := Lib.hid (HP.out.step hb1); have HO1 := Lib.hid (HO.out.step hb1); have HZ1 := Lib.hid (HZ.out.step hb1); have HK1 := Lib.hid (bstep HK.out hb1); have HN1 := Lib.hid (Nat.le_trans HN.out hb1.size); clear HN HK HP HO HZ; have HP := HP1; clear HP1; have HO := HO1; clear HO1; have HZ := HZ1; clear HZ1; have HK := HK1; clear HK1; have HN := HN1; clear HN1; clear hb1) | (go_at_call 48; refine (HS.out _ HK.out).mono ?_; rintro e w1 ⟨rfl, hb1⟩; have HP1 := Lib.hid (HP.out.step hb1); have HO1 := Lib.hid (HO.out.step hb1); have HZ1 := Lib.hid (HZ.out.step hb1); have HK1 := Lib.hid (bstep HK.out hb1); have HN1 := Lib.hid (Nat.le_trans HN.out hb1.size); clear HN HK HP HO HZ; have HP := HP1; clear HP1; have HO := HO1; clear HO1; have HZ := HZ1; clear HZ1; have HK := HK1; clear HK1; have HN := HN1; clear HN1; clear hb1))
  go_upto_region 8 with (first | (refine wpList_load_row rfl 28 (.tmp 3) rfl w.heap.size rfl 28 #[.int .u32 num, .int .u64 lsn, .int .i64 kind, .string head, .slice AA slots.length cc] (0, 0) _ HP.out Try.underlying28 rfl (by kernel_rfl) ?_) | (refine wpList_store_row rfl 28 (.tmp 10) (.tmp 25) rfl w1.heap.size #[.int .u32 num, .int .u64 lsn, .int .i64 kind, .string head, .slice AA slots.length cc] rfl rfl 28 #[.int .u32 0, .int .u64 0, .int .i64 0, .string ⟨#[]⟩, .slice none 0 0] (Blk.new w1 28 #[.int .u32 0, .int .u64 0, .int .i64 0, .string ⟨#[]⟩, .slice none 0 0]) (by kernel_rfl) rfl (by simp [Value.oneCell']) ?_))
  have hX := blk_setRow (cs' := #[.int .u32 num, .int .u64 lsn, .int .i64 kind, .string head, .slice AA slots.length cc]) (Blk.new w1 28 #[.int .u32 0, .int .u64 0, .int .i64 0, .string ⟨#[]⟩, .slice none 0 0])
  have hK := setRow_below (balloc HK.out (.cells #[.int .u32 0, .int .u64 0, .int .i64 0, .string ⟨#[]⟩, .slice none 0 0] 28)) (g := w1.heap.size) HK.out.size #[.int .u32 num, .int .u64 lsn, .int .i64 kind, .string head, .slice AA slots.length cc]
  have hP := blk_setRow_far (HP.out.alloc (.cells #[.int .u32 0, .int .u64 0, .int .i64 0, .string ⟨#[]⟩, .slice none 0 0] 28)) (b := w1.heap.size) #[.int .u32 num, .int .u64 lsn, .int .i64 kind, .string head, .slice AA slots.length cc] (by have := HN.out; omega)
  have hO := blk_setRow_far (HO.out.alloc (.cells #[.int .u32 0, .int .u64 0, .int .i64 0, .string ⟨#[]⟩, .slice none 0 0] 28)) (b := w1.heap.size) #[.int .u32 num, .int .u64 lsn, .int .i64 kind, .string head, .slice AA slots.length cc] (by have := HN.out; omega)
  have hZ := blk_setRow_far (HZ.out.alloc (.cells #[.int .u32 0, .int .u64 0, .int .i64 0, .string ⟨#[]⟩, .slice none 0 0] 28)) (b := w1.heap.size) #[.int .u32 num, .int .u64 lsn, .int .i64 kind, .string head, .slice AA slots.length cc] (by have := HN.out; omega)
  have hN : w1.heap.size + 1 ≤ ((w1.alloc (.cells #[.int .u32 0, .int .u64 0, .int .i64 0, .string ⟨#[]⟩, .slice none 0 0] 28)).setRow w1.heap.size #[.int .u32 num, .int .u64 lsn, .int .i64 kind, .string head, .slice AA slots.length cc]).heap.size := by rw [size_sr, size_al]; omega
  have hN0 := HN.out
  clear HP HO HZ HK HN
  obtain ⟨x0, hx0⟩ : ∃ x, x = w1.heap.size := ⟨_, rfl⟩
  rw [← hx0] at hX hP hO hZ hK hN hN0
  simp only [← hx0]
  have hcl := clone_any (A := AA) (l := slots) cc (rows_bl1 HA.out hK) (by have := HL.out; omega)
  generalize ((w1.alloc (.cells #[.int .u32 0, .int .u64 0, .int .i64 0, .string ⟨#[]⟩, .slice none 0 0] 28)).setRow x0 #[.int .u32 num, .int .u64 lsn, .int .i64 kind, .string head, .slice AA slots.length cc]) = w2 at *
  have HX := Lib.hid hX
  have HP := Lib.hid hP
  have HO := Lib.hid hO
  have HZ := Lib.hid hZ
  have HK := Lib.hid hK
  have HN := Lib.hid hN
  have HN0 := Lib.hid hN0
  have HC := Lib.hid hcl
  have c4 := (pgCells hP).2.2.2.2
  clear hX hP hO hZ hK hN hN0 hcl hx0
  go_upto_region 9 with (go_at_call 49; refine HC.out.mono ?_; rintro e w3 ⟨v, rfl, ho1, hb1⟩; obtain ⟨AV, cv, rfl⟩ := own_sl ho1; have ho1 := own_le ho1 HK.out.size; have HP1 := Lib.hid (HP.out.step hb1); have HO1 := Lib.hid (HO.out.step hb1); have HZ1 := Lib.hid (HZ.out.step hb1); have HX1 := Lib.hid (HX.out.step hb1); have HK1 := Lib.hid (bstep HK.out hb1); have HN1 := Lib.hid (Nat.le_trans HN.out hb1.size); clear HN HK HP HO HZ HX; have HP := HP1; clear HP1; have HO := HO1; clear HO1; have HZ := HZ1; clear HZ1; have HX := HX1; clear HX1; have HK := HK1; clear HK1; have HN := HN1; clear HN1; have HR := Lib.hid ho1; have HB0 := Lib.hid HN0.out; clear hb1 ho1 HC c4; obtain ⟨cx0, cx1, cx2, cx3, cx4⟩ := pgCells HX.out; have fx1 := HX.out.frozen 1; have fx4 := HX.out.frozen 4)
  have hX : Blk ((w3.setCell ⟨x0, 4, none⟩ (.slice AV slots.length cv)).setCell ⟨x0, 1, none⟩ (.int .u64 l)) x0 28 #[.int .u32 num, .int .u64 l, .int .i64 kind, .string head, .slice AV slots.length cv] := (HX.out.set_ 4 (.slice AV slots.length cv)).set_ 1 (.int .u64 l)
  have hP := (HP.out.far (p := ⟨x0, 4, none⟩) (by have := HB0.out; show _ ≠ x0; omega) (.slice AV slots.length cv)).far (p := ⟨x0, 1, none⟩) (by have := HB0.out; show _ ≠ x0; omega) (.int .u64 l)
  have hO := (HO.out.far (p := ⟨x0, 4, none⟩) (by have := HB0.out; show _ ≠ x0; omega) (.slice AV slots.length cv)).far (p := ⟨x0, 1, none⟩) (by have := HB0.out; show _ ≠ x0; omega) (.int .u64 l)
  have hZ := (HZ.out.far (p := ⟨x0, 4, none⟩) (by have := HB0.out; show _ ≠ x0; omega) (.slice AV slots.length cv)).far (p := ⟨x0, 1, none⟩) (by have := HB0.out; show _ ≠ x0; omega) (.int .u64 l)
  have hR := own_set (b := x0) (o := 1) (u := .int .u64 l) (own_set (b := x0) (o := 4) (u := .slice AV slots.length cv) HR.out HX.out (by decide)) (HX.out.set_ 4 _) (by decide)
  have hK := bsetAt (o := 1) (bsetAt (o := 4) HK.out (b := x0) (by have := HB0.out; omega) (.slice AV slots.length cv)) (b := x0) (by have := HB0.out; omega) (.int .u64 l)
  have hN : x0 + 1 ≤ ((w3.setCell ⟨x0, 4, none⟩ (.slice AV slots.length cv)).setCell ⟨x0, 1, none⟩ (.int .u64 l)).heap.size := by simpa using HN.out
  clear HX HP HO HZ HR HK HN HA HS HE cx0 cx1 cx2 cx3 cx4 fx1 fx4
  generalize (w3.setCell ⟨x0, 4, none⟩ (.slice AV slots.length cv)).setCell ⟨x0, 1, none⟩ (.int .u64 l) = w4 at *
  have HX := Lib.hid hX
  have HP := Lib.hid hP
  have HO := Lib.hid hO
  have HZ := Lib.hid hZ
  have HR := Lib.hid hR
  have HK := Lib.hid hK
  have HN := Lib.hid hN
  obtain ⟨co0, co1, co2, co3⟩ := opCells hO
  obtain ⟨cx0, cx1, cx2, cx3, cx4⟩ := pgCells hX
  clear hX hP hO hZ hR hK hN
  have H64 := HL
  have fx3 := HX.out.frozen 3
  go_upto_region 25 with fail
  clear fx3
  have hX : Blk ((w4).setCell ⟨x0, 3, none⟩ (.string s)) x0 28 #[.int .u32 num, .int .u64 l, .int .i64 kind, .string s, .slice AV slots.length cv] := (HX.out.set_ 3 (.string s))
  have hZ := (HZ.out).far (p := ⟨x0, 3, none⟩) (by have := HB0.out; show _ ≠ x0; omega) (.string s)
  have hK := (bsetAt (o := 3) (HK.out) (b := x0) (by have := HB0.out; omega) (.string s))
  have hR := (own_set (b := x0) (o := 3) (u := .string s) (HR.out) (HX.out) (by decide))
  clear HX HZ HK HR HP HO HN HN0 co0 co1 co2 co3 cx0 cx1 cx2 cx3 cx4
  generalize (w4).setCell ⟨x0, 3, none⟩ (.string s) = w5 at *
  have HX := Lib.hid hX
  have HZ := Lib.hid hZ
  have HK := Lib.hid hK
  have HR := Lib.hid hR
  clear hX hZ hK hR
  have hrm := room_any num l kind s slots AV cv w5 (own_rdrows HR.out) H64.out HSZ.out HHZ.out
  have HRm := Lib.hid hrm
  clear hrm
  have hf1 : (485 : Int) - (s).size - slotsN (slots) < 0 → finR num l (kind) (s) (slots) = (0, 0, 0, ⟨#[]⟩, [], 30) := fun h => if_pos h
  have hf2 : ¬ (485 : Int) - (s).size - slotsN (slots) < 0 → finR num l (kind) (s) (slots) = (num, l, kind, s, slots, 0) := fun h => if_neg h
  have HF1 := Lib.hid hf1
  have HF2 := Lib.hid hf2
  clear hf1 hf2
  generalize hrm : (485 : Int) - (s).size - slotsN (slots) = rm at *
  by_cases hr : rm < 0
  · have d5 : decide (rm < 0) = true := by simpa using hr
    go_wp2_with (first | (refine wpList_load_row rfl 28 (.tmp 10) rfl x0 rfl 28 #[.int .u32 num, .int .u64 l, .int .i64 kind, .string s, .slice AV slots.length cv] (0, 0) _ HX.out Try.underlying28 rfl (by kernel_rfl) ?_) | (go_at_call 14; refine HRm.out.mono ?_; rintro e w9 ⟨rfl, hb9⟩; have HX1 := Lib.hid (HX.out.step hb9); have HZ1 := Lib.hid (HZ.out.step hb9); have HR1 := Lib.hid (own_below HR.out hb9); have HK1 := Lib.hid (bstep HK.out hb9); clear HX HZ HR HK hb9; have HX := HX1; have HZ := HZ1; have HR := HR1; have HK := HK1; clear HX1 HZ1 HR1 HK1) | (refine wpList_store_row rfl 28 (.tmp 6) (.tmp 119) rfl (w.heap.size + 2) #[.int .u32 0, .int .u64 0, .int .i64 0, .string ⟨#[]⟩, .slice none 0 0] rfl rfl 28 #[.int .u32 0, .int .u64 0, .int .i64 0, .string ⟨#[]⟩, .slice none 0 0] HZ.out (by kernel_rfl) rfl (by simp [Value.oneCell']) ?_))
    refine bodyPost_ret (v := .tuple #[.agg #[.int .u32 0, .int .u64 0, .int .i64 0, .string ⟨#[]⟩, .slice none 0 0], .int .i64 30]) (by exact results_ct (p := 6) (q := 7) rfl _ _ (w.heap.size + 2) 28 #[.int .u32 0, .int .u64 0, .int .i64 0, .string ⟨#[]⟩, .slice none 0 0] (0, 0) _ rfl (blk_setRow HZ.out) Try.underlying28 rfl (by kernel_rfl)) rfl ?_
    rw [HF1.out hr]
    exact ⟨_, rfl, World.ownsRow_nil _ _ _ _, setRow_below HK.out (by omega) _⟩
  · have d5 : decide (rm < 0) = false := by simpa using hr
    go_wp2_with (first | (refine wpList_load_row rfl 28 (.tmp 10) rfl x0 rfl 28 #[.int .u32 num, .int .u64 l, .int .i64 kind, .string s, .slice AV slots.length cv] (0, 0) _ HX.out Try.underlying28 rfl (by kernel_rfl) ?_) | (go_at_call 14; refine HRm.out.mono ?_; rintro e w9 ⟨rfl, hb9⟩; have HX1 := Lib.hid (HX.out.step hb9); have HZ1 := Lib.hid (HZ.out.step hb9); have HR1 := Lib.hid (own_below HR.out hb9); have HK1 := Lib.hid (bstep HK.out hb9); clear HX HZ HR HK hb9; have HX := HX1; have HZ := HZ1; have HR := HR1; have HK := HK1; clear HX1 HZ1 HR1 HK1) | (refine wpList_store_row rfl 28 (.tmp 6) (.tmp 120) rfl (w.heap.size + 2) #[.int .u32 num, .int .u64 l, .int .i64 kind, .string s, .slice AV slots.length cv] rfl rfl 28 #[.int .u32 0, .int .u64 0, .int .i64 0, .string ⟨#[]⟩, .slice none 0 0] HZ.out (by kernel_rfl) rfl (by simp [Value.oneCell']) ?_))
    refine bodyPost_ret (v := .tuple #[.agg #[.int .u32 num, .int .u64 l, .int .i64 kind, .string s, .slice AV slots.length cv], .int .i64 0]) (by exact results_ct (p := 6) (q := 7) rfl _ _ (w.heap.size + 2) 28 #[.int .u32 num, .int .u64 l, .int .i64 kind, .string s, .slice AV slots.length cv] (0, 0) _ rfl (blk_setRow HZ.out) Try.underlying28 rfl (by kernel_rfl)) rfl ?_
    rw [HF2.out hr]
    exact ⟨_, rfl, own_setRow HR.out HZ.out (by decide), setRow_below HK.out (by omega) _⟩
end Go.Proofs.Yteokjmjfjdgmpaa
end
section
namespace Go.Proofs.YteokjmjfjdgmpaaW.PrintLast
open Go.Proofs.YteokjmjfjdgmpaaW.PrintWords (Aside0)
def needsOf (md : Region.Mode) (o : Oper) : List Nat := (o.after.toList.filter (fun e => Region.binds md e)).map (fun e => e.on)
def clashOf (md : Region.Mode) (ops : Array Oper) (i : Nat) (oi : Oper) : List Nat := (List.range ops.size).filter fun j => !(j == i) && match ops[j]? with
 | some oj => !(oj.after.any (fun e => Region.binds md e && e.on == i) || oi.apart ops oj)
 | none => false
def rtab (md : Region.Mode) (ops : Array Oper) : Bool × List (List Nat × List Nat) := (Region.noSelect ops, (List.range ops.size).map fun i => match ops[i]? with
 | some o => (needsOf md o, clashOf md ops i o)
 | none => ([], []))
def readyAt (T : List (List Nat × List Nat)) (l : List Bool) (i : Nat) : Bool := !l.getD i true && match T[i]? with
 | some r => r.1.all (fun j => l.getD j false)
 | none => false
def readyT (T : List (List Nat × List Nat)) (l : List Bool) : List Nat := (List.range T.length).filter (readyAt T l)
def freeT (T : List (List Nat × List Nat)) (l : List Bool) (i : Nat) : Bool := match T[i]? with
 | some r => r.2.all (fun j => l.getD j true)
 | none => false
def closedT (T : List (List Nat × List Nat)) (l : List Bool) : Bool := (List.range T.length).all fun j => !l.getD j false || match T[j]? with
 | some r => r.1.all (fun k => l.getD k false)
 | none => true
def reachT (T : List (List Nat × List Nat)) (i : Nat) : Nat → Nat → Bool
 | 0, _ => false
 | fuel + 1, d => match T[d]? with
  | some r => r.1.any fun j => j == i || reachT T i fuel j
  | none => false
def lastT (T : List (List Nat × List Nat)) (l : List Bool) (ds : List Nat) (i : Nat) : Bool := ds.all fun d => l.getD d true || reachT T i T.length d
section
variable {md : Region.Mode} {ops : Array Oper} {T : Bool × List (List Nat × List Nat)} {l l' li lj lk : Array Bool} {ds : List Nat} {i j k : Nat}
theorem gd (l : Array Bool) (j : Nat) (b : Bool) : l.getD j b = l.toList.getD j b := by simp [Array.getD_eq_getD_getElem?, List.getD_eq_getElem?_getD]
theorem needs_all (o : Oper) (p : Nat → Bool) : o.after.all (fun e => !Region.binds md e || p e.on) = (needsOf md o).all p := by
 unfold needsOf
 rw [← Array.all_toList]
 induction o.after.toList with
 | nil => rfl
 | cons e r ih =>
  rw [List.all_cons, ih, List.filter_cons]
  cases h : Region.binds md e <;> simp
theorem needs_any (o : Oper) (p : Nat → Bool) : o.after.any (fun e => Region.binds md e && p e.on) = (needsOf md o).any p := by
 unfold needsOf
 rw [← Array.any_toList]
 induction o.after.toList with
 | nil => rfl
 | cons e r ih =>
  rw [List.any_cons, ih, List.filter_cons]
  cases h : Region.binds md e <;> simp
theorem rtab_length : (rtab md ops).2.length = ops.size := by simp [rtab]
theorem rtab_some {o : Oper} (h : ops[i]? = some o) : (rtab md ops).2[i]? = some (needsOf md o, clashOf md ops i o) := by
 have hi := (Array.getElem?_eq_some_iff.1 h).1
 unfold rtab
 rw [List.getElem?_map, List.getElem?_range hi, Option.map_some, h]
theorem rtab_none (h : ops[i]? = none) : (rtab md ops).2[i]? = none := by
 have hi : ops.size ≤ i := Array.getElem?_eq_none_iff.1 h
 exact List.getElem?_eq_none (by rw [rtab_length]; exact hi)
theorem readyAt_eq : readyAt (rtab md ops).2 l.toList i = (!l.getD i true && ((ops[i]?).map (·.after.all fun e => !Region.binds md e || l.getD e.on false)).getD false) := by
 unfold readyAt
 rw [gd]
 cases h : ops[i]? with
 | none => rw [rtab_none h]; rfl
 | some o =>
  rw [rtab_some h]
  simp only [Option.map_some, Option.getD_some]
  rw [← needs_all]
  simp only [gd]
theorem ready_eq : Region.ready md ops l = readyT (rtab md ops).2 l.toList := by
 unfold Region.ready readyT
 rw [rtab_length]
 refine List.filter_congr (fun i _ => ?_)
 rw [readyAt_eq]
theorem free_eq : Region.free md ops l i = freeT (rtab md ops).2 l.toList i := by
 unfold Region.free freeT
 cases h : ops[i]? with
 | none => rw [rtab_none h]
 | some oi =>
  rw [rtab_some h]
  simp only [clashOf]
  rw [List.all_filter]
  congr 1
  funext j
  rw [gd]
  cases hj : ops[j]? with
  | none => cases (j == i) <;> cases (l.toList.getD j true) <;> simp
  | some oj =>
   cases (j == i) <;> cases (l.toList.getD j true) <;> cases (oj.after.any (fun e => Region.binds md e && e.on == i) || oi.apart ops oj) <;> simp_all
theorem closed_eq : Region.closedB md ops l = closedT (rtab md ops).2 l.toList := by
 unfold Region.closedB closedT
 rw [rtab_length]
 congr 1
 funext j
 rw [gd]
 cases h : ops[j]? with
 | none => rw [rtab_none h]
 | some o =>
  rw [rtab_some h]
  simp only
  rw [← needs_all]
  simp only [gd]
theorem reach_eq : ∀ (fuel d : Nat), Region.reachB md ops i fuel d = reachT (rtab md ops).2 i fuel d
 | 0, _ => rfl
 | fuel + 1, d => by
  unfold Region.reachB reachT
  cases h : ops[d]? with
  | none => rw [rtab_none h]
  | some o =>
   rw [rtab_some h]
   simp only
   rw [← needs_any]
   congr 1
   funext e
   rw [reach_eq fuel]
theorem last_eq : Region.lastB md ops l ds i = lastT (rtab md ops).2 l.toList ds i := by
 unfold Region.lastB lastT
 rw [rtab_length]
 congr 1
 funext d
 rw [gd, reach_eq]
theorem readyAt_mem (h : readyAt T.2 l.toList i = true) (hT : rtab md ops = T) : (Region.ready md ops l).contains i = true := by
 subst hT
 rw [ready_eq]
 unfold readyT
 rw [List.contains_iff_mem, List.mem_filter, List.mem_range]
 refine ⟨?_, h⟩
 unfold readyAt at h
 rw [Bool.and_eq_true] at h
 cases hq : (rtab md ops).2[i]? with
 | none => rw [hq] at h; simp at h
 | some r => exact (List.getElem?_eq_some_iff.1 hq).1
theorem set_of (h : (l.toList.set i true == l'.toList) = true) : (l.setIfInBounds i true == l') = true := by
 rw [beq_iff_eq] at h ⊢
 apply Array.ext'
 rw [Array.toList_setIfInBounds]
 exact h
def anyT (T : Bool × List (List Nat × List Nat)) (l l' : List Bool) (i : Nat) : Bool := T.1 && freeT T.2 l i && readyAt T.2 l i && (l.set i true == l')
theorem any_of (hT : rtab md ops = T) (h : anyT T l.toList l'.toList i = true) : anyB md ops l l' i = true := by
 simp only [anyT, Bool.and_eq_true] at h
 obtain ⟨⟨⟨h1, h2⟩, h3⟩, h4⟩ := h
 have h5 := readyAt_mem h3 hT
 have h6 := set_of h4
 subst hT
 simp only [anyB, Bool.and_eq_true]
 exact ⟨⟨⟨h1, by rw [free_eq]; exact h2⟩, h5⟩, h6⟩
def takeT (T : Bool × List (List Nat × List Nat)) (ds : List Nat) (l l' : List Bool) (i : Nat) : Bool := T.1 && freeT T.2 l i && readyAt T.2 l i && closedT T.2 l && lastT T.2 l ds i && (l.set i true == l')
theorem take_of (hT : rtab md ops = T) (h : takeT T ds l.toList l'.toList i = true) : takeB md ops ds l l' i = true := by
 simp only [takeT, Bool.and_eq_true] at h
 obtain ⟨⟨⟨⟨⟨h1, h2⟩, h3⟩, h4⟩, h5⟩, h6⟩ := h
 have h7 := readyAt_mem h3 hT
 have h8 := set_of h6
 subst hT
 simp only [takeB, Bool.and_eq_true]
 exact ⟨⟨⟨⟨⟨h1, by rw [free_eq]; exact h2⟩, h7⟩, by rw [closed_eq]; exact h4⟩, by rw [last_eq]; exact h5⟩, h8⟩
theorem one_of (hT : rtab md ops = T) (h : (readyT T.2 l.toList == [i] && l.toList.set i true == l'.toList) = true) : readyB md ops l l' i = true := by
 simp only [Bool.and_eq_true] at h
 obtain ⟨h1, h2⟩ := h
 subst hT
 simp only [readyB, Bool.and_eq_true]
 exact ⟨by rw [ready_eq]; exact h1, set_of h2⟩
theorem done_of (hT : rtab md ops = T) (h : (readyT T.2 l.toList == []) = true) : (Region.ready md ops l == []) = true := by
 subst hT
 rw [ready_eq]
 exact h
def upM (B : List Nat) (d : Nat) : List Nat → Nat
 | [] => 0
 | n :: r => (2 ^ n ||| (if n < d then B.getD n 0 else 0)) ||| upM B d r
def waitsOk (T : List (List Nat × List Nat)) (B : List Nat) : Bool := (List.range T.length).all fun d => match T[d]? with
 | some r => (B.getD d 0 ||| upM B d r.1) == upM B d r.1
 | none => false
theorem upM_bit {B : List Nat} {d i : Nat} : ∀ {ns : List Nat}, (upM B d ns).testBit i = true → ∃ n ∈ ns, n = i ∨ (n < d ∧ (B.getD n 0).testBit i = true)
 | [], h => by simp [upM] at h
 | n :: r, h => by
  unfold upM at h
  rw [Nat.testBit_or, Nat.testBit_or, Bool.or_eq_true, Bool.or_eq_true] at h
  rcases h with (h | h) | h
  ·rw [Nat.testBit_two_pow] at h
   exact ⟨n, List.mem_cons_self, .inl (by simpa using h)⟩
  ·by_cases hn : n < d
   ·rw [if_pos hn] at h
    exact ⟨n, List.mem_cons_self, .inr ⟨hn, h⟩⟩
   ·rw [if_neg hn] at h
    simp at h
  ·obtain ⟨m, hm, h2⟩ := upM_bit h
   exact ⟨m, List.mem_cons_of_mem _ hm, h2⟩
theorem reach_bit {T : List (List Nat × List Nat)} {B : List Nat} (hB : waitsOk T B = true) : ∀ (fuel d : Nat), d < fuel → d < T.length → (B.getD d 0).testBit i = true → reachT T i fuel d = true
 | 0, d, h, _, _ => by omega
 | fuel + 1, d, h, hd, hb => by
  have h1 := List.all_eq_true.1 hB d (List.mem_range.2 hd)
  cases hr : T[d]? with
  | none => rw [hr] at h1; simp at h1
  | some r =>
   rw [hr] at h1
   simp only [beq_iff_eq] at h1
   have h2 : (upM B d r.1).testBit i = true := by rw [← h1, Nat.testBit_or, hb, Bool.true_or]
   obtain ⟨n, hn, h3⟩ := upM_bit h2
   unfold reachT
   rw [hr]
   simp only
   rw [List.any_eq_true]
   refine ⟨n, hn, ?_⟩
   rcases h3 with rfl | ⟨h4, h5⟩
   ·simp
   ·rw [reach_bit hB fuel n (by omega) (by omega) h5, Bool.or_true]
def lastW (T : List (List Nat × List Nat)) (B : List Nat) (l : List Bool) (ds : List Nat) (i : Nat) : Bool := ds.all fun d => l.getD d true || (decide (d < T.length) && (B.getD d 0).testBit i)
def takeW (T : Bool × List (List Nat × List Nat)) (B : List Nat) (ds : List Nat) (l l' : List Bool) (i : Nat) : Bool := T.1 && freeT T.2 l i && readyAt T.2 l i && closedT T.2 l && lastW T.2 B l ds i && (l.set i true == l')
theorem take_ofW {B : List Nat} (hT : rtab md ops = T) (hB : waitsOk T.2 B = true) (h : takeW T B ds l.toList l'.toList i = true) : takeB md ops ds l l' i = true := by
 refine take_of hT ?_
 simp only [takeW, takeT, Bool.and_eq_true] at h ⊢
 obtain ⟨⟨⟨⟨⟨h1, h2⟩, h3⟩, h4⟩, h5⟩, h6⟩ := h
 refine ⟨⟨⟨⟨⟨h1, h2⟩, h3⟩, h4⟩, ?_⟩, h6⟩
 unfold lastW at h5
 unfold lastT
 rw [List.all_eq_true] at h5 ⊢
 intro d hd
 have h7 := h5 d hd
 rw [Bool.or_eq_true, Bool.and_eq_true, decide_eq_true_eq] at h7
 rcases h7 with h7 | ⟨h8, h9⟩
 ·rw [h7, Bool.true_or]
 ·rw [reach_bit hB _ d h8 h8 h9, Bool.or_true]
theorem with_tabW {P : Program} {Q : Exit → Act → World → Prop} {S : World → Prop} {n : Nat} {a : Act} {w : World} {B : List Nat} (hT : rtab md ops = T) (hB : waitsOk T.2 B = true) (h : Aside0 (rtab md ops = T) → Aside0 (waitsOk T.2 B = true) → wpAnyLast P md ops Q S ds n l a w) : wpAnyLast P md ops Q S ds n l a w := h ⟨hT⟩ ⟨hB⟩
end
def opsIn : Code → Nat → Option (Array Oper)
 | .region id ops _, k => if id == k then some ops else none
 | .seq a b, k => match opsIn a k with
  | some o => some o
  | none => opsIn b k
 | .cond _ a b, k => match opsIn a k with
  | some o => some o
  | none => opsIn b k
 | .block _ c, k => opsIn c k
 | .loop c, k => opsIn c k
 | .scope c, k => opsIn c k
 | .rangeFunc _ _ a b, k => match opsIn a k with
  | some o => some o
  | none => opsIn b k
 | _, _ => none
def opsOf (f : Func) (k : Nat) : Array Oper := ((f.body.bind fun c => opsIn c k)).getD #[]
end Go.Proofs.YteokjmjfjdgmpaaW.PrintLast
end
section
namespace Go.Proofs.YteokjmjfjdgmpaaW.PrintWords
theorem Reps.one {α : Type} {R : α → List Value → Prop} {ps : List α} {cs : List Value} {p : α} {v : Value} (hp : R p [v]) (h : Reps R 1 ps cs) : Reps R 1 (p :: ps) (v :: cs) := by
 refine ⟨by simp [h.1], fun j q hq => ?_⟩
 cases j with
 | zero =>
  simp only [List.getElem?_cons_zero, Option.some.injEq] at hq
  subst hq
  simpa using hp
 | succ j =>
  simp only [List.getElem?_cons_succ] at hq
  have h1 := h.2 j q hq
  simpa [Nat.mul_one] using h1
end Go.Proofs.YteokjmjfjdgmpaaW.PrintWords
end
section
namespace Go.Proofs.YteokjmjfjdgmpaaW.PrintWords
open Go.RowKit
section
variable {P : Program} {ops : Array Oper} {rest : List Oper} {o : Oper} {a : Act} {Q : Exit → Act → World → Prop} {W : World}
theorem gate_guard (hw : Region.wanted o (yielded ops a.tmps) = true) (h : wpList P ops Q ({ o with guard := none } :: rest) a W) : wpList P ops Q (o :: rest) a W := by
 have h1 : Region.wanted { o with guard := none } (yielded ops a.tmps) = true := rfl
 unfold wpList at h ⊢
 rw [if_pos h1] at h
 rw [if_pos hw]
 exact h
end
end Go.Proofs.YteokjmjfjdgmpaaW.PrintWords
end
section
namespace Go.Proofs.Yteokjmjfjdgmpaa.PAp
open Go.RowKit Go.Proofs.YteokjmjfjdgmpaaW.PrintWords Go.Proofs.YteokjmjfjdgmpaaW.PrintLast Go.Proofs.YteokjmjfjdgmpaaW.PrintMore
attribute [local go_sem] max2_int min2_int max_two min_two max_three min_three max_four min_four
set_option linter.unusedVariables false
set_option linter.unusedSimpArgs false
def errW : Option Int → Value
 | none => .nilIface
 | some c => .iface 0 (.int .i64 c)
theorem errW_none : errW none = .nilIface := rfl
theorem errW_some (c : Int) : errW (some c) = .iface 0 (.int .i64 c) := rfl
end Go.Proofs.Yteokjmjfjdgmpaa.PAp
end
section
namespace Go.Proofs.Yteokjmjfjdgmpaa.PAp
open Go.RowKit Go.Proofs.YteokjmjfjdgmpaaW.PrintWords Go.Proofs.YteokjmjfjdgmpaaW.PrintLast Go.Proofs.YteokjmjfjdgmpaaW.PrintMore
attribute [local go_sem] max2_int min2_int max_two min_two max_three min_three max_four min_four
set_option linter.unusedVariables false
set_option linter.unusedSimpArgs false
def page_Kind.f (a0 : Int) (a1 : ByteArray) : Option (ByteArray) := (some (([(a0) % 256] : List Int) : List Int)).bind fun y101 => (if (strOfNums y101).size + a1.size ≤ 9223372036854775807 then (some ((strOfNums y101) ++ a1)) else (none))
set_option maxHeartbeats 8000000 in
set_option maxRecDepth 100000 in
theorem page_Kind.calls (a0 : Int) (a1 : ByteArray) (r : ByteArray) (w : World) (h : page_Kind.f a0 a1 = some r) :
  Calls Try.prog 19 #[.int .i64 a0, .string a1] w fun e w' => e = .returned (.string r) ∧ Below w.heap.size w w' := by
 have HB := Aside0.mk (Below.refl w.heap.size w)
 have H : ((some (([(a0) % 256] : List Int) : List Int)).bind fun y101 => (if (strOfNums y101).size + a1.size ≤ 9223372036854775807 then (some ((strOfNums y101) ++ a1)) else (none))) = some r := h
 clear h
 obtain ⟨y101, hy101⟩ : ∃ y_ : List Int, y_ = (([(a0) % 256] : List Int)) := ⟨_, rfl⟩
 replace H : (if (strOfNums y101).size + a1.size ≤ 9223372036854775807 then (some ((strOfNums y101) ++ a1)) else (none)) = some r := by first | (rw [hy101]; with_reducible exact H) | (have H2_ := (Option.bind_some _ _).symm.trans H; rw [hy101]; with_reducible exact H2_) | (have H2_ := (Option.bind_some _ _).symm.trans H; with_reducible exact H2_) | with_reducible exact H | (rw [hy101]; exact H) | exact H
 have Ny101 := Aside0.mk hy101
 clear hy101
 by_cases c3 : (strOfNums y101).size + a1.size ≤ 9223372036854775807
 ·rw [if_pos c3] at H
  have c3b0 := eq_true c3
  have c3b1 : decide ((strOfNums y101).size + a1.size ≤ 9223372036854775807) = true := decide_eq_true c3
  try have c3b2 : (9223372036854775807 < (strOfNums y101).size + a1.size) = False := eq_false (Nat.not_lt.2 c3)
  obtain rfl := Option.some.inj H
  go_enter Try.func19, Try.ntmps19
  go_wp2_with (first | ((with_reducible refine gate_dst (N := 7) rfl ?_); refine Kd.R_lit (Kd.int .u8) _ 5 ?hg (N := 7) ?hd (xs := ([(a0) % 256] : List Int)) (inner := [.int .u8 ((a0) % 256)]) (ok := fun _ => True) (okp := fun _ => True) ?hr ?hp (fun _ hk => hk) trivial (Below.refl _ _) (Nat.le_refl _) (by simp) ?_; (case hd => rfl); (case hg => rfl); (case hr => first | (go_simp; done) | (go_simp; rfl)); (case hp => exact (Reps.one (show Kd.M (Kd.int .u8) _ _ _ ((a0) % 256) [.int .u8 ((a0) % 256)] from rfl) (Reps.none _ _))); intro v102 w4 ho5 hb hg_ hnew_; clear hg_ hnew_; (first | rw [← Ny101.out] at ho5 | (simp only [Int.reduceToNat] at ho5; rw [← Ny101.out] at ho5)); have n0_ := Aside0.mk (Kd.R_lower ho5 (below_size (by repeat (first | (with_reducible first | exact HB.out | apply below_alloc | apply pw_below_drewN | apply below_drew1) | exact HB.out)))); have n1_ := Aside0.mk (below_step (by repeat (first | (with_reducible first | exact HB.out | apply below_alloc | apply pw_below_drewN | apply below_drew1) | exact HB.out)) hb); clear HB; have HO103 := n0_; have HB := n1_; clear n0_ n1_; clear hb ho5; have hcv6 := own_string (P := Try.prog) Try.underlying55 Try.underlying5 Try.underlying9 (Kd.own_of_R HO103.out)))
  go_ret
  exact ⟨by first | rfl | (simp [errW_none, errW_some] <;> rfl) | (simp [*, errW_none, errW_some] <;> rfl), by repeat (first | (with_reducible first | exact HB.out | apply below_alloc | apply pw_below_drewN | apply below_drew1) | exact HB.out)⟩
 ·rw [if_neg c3] at H
  exact absurd H (by simp)
end Go.Proofs.Yteokjmjfjdgmpaa.PAp
end
section
namespace Go.Proofs.Yteokjmjfjdgmpaa.PAp
open Go.RowKit Go.Proofs.YteokjmjfjdgmpaaW.PrintWords Go.Proofs.YteokjmjfjdgmpaaW.PrintLast Go.Proofs.YteokjmjfjdgmpaaW.PrintMore
attribute [local go_sem] max2_int min2_int max_two min_two max_three min_three max_four min_four
set_option linter.unusedVariables false
set_option linter.unusedSimpArgs false
mutual
def page_stands.j0 : Nat → Int → Bool → Int → Int → Int → ByteArray → List ByteArray → Int → Int → ByteArray → ByteArray → Option (Int)
 | 0, _, _, _, _, _, _, _, _, _, _, _ => none
 | k + 1, x6, x19, x105000, x105001, x105002, x105003, x105004, x106000, x106001, x106002, x106003 => if x19 = true then (if x106001 ≥ (x105004.length : Int) then (some 1) else (if 0 ≤ x106001 then (if x106001 < (x105004.length : Int) then (if (rdOf ByteArray.empty x105004 x106001).toList = x106003.toList then (some 0) else (some 31)) else (none)) else (none))) else (if x6 = 5 then (if x105003.toList = x106003.toList then (some 0) else (some 31)) else (if x6 = 7 then (if (x105004.length : Int) = 0 then ((page_Kind.f x105002 x105003).bind fun t107 => (if t107.toList = x106003.toList then (some 0) else (some 31))) else (some 1)) else (if x6 = 6 then (if (x105004.length : Int) = 0 then (page_stands.j1 k true x105000 x105001 x105002 x105003 x105004 x106000 x106001 x106002 x106003) else (if 0 < (x105004.length : Int) then (page_stands.j1 k (decide ((wrap64 (((rdOf ByteArray.empty x105004 0).size : Int) - x106001)) < (x106002.size : Int))) x105000 x105001 x105002 x105003 x105004 x106000 x106001 x106002 x106003) else (none))) else (some 0))))
def page_stands.j1 : Nat → Bool → Int → Int → Int → ByteArray → List ByteArray → Int → Int → ByteArray → ByteArray → Option (Int)
 | 0, _, _, _, _, _, _, _, _, _, _ => none
 | k + 1, x77, x105000, x105001, x105002, x105003, x105004, x106000, x106001, x106002, x106003 => if x77 = true then (some 1) else (if 0 < (x105004.length : Int) then (if 0 ≤ x106001 then (if x106001 ≤ (wrap64 (x106001 + (x106002.size : Int))) then (if (wrap64 (x106001 + (x106002.size : Int))) ≤ ((rdOf ByteArray.empty x105004 0).size : Int) then (if ((rdOf ByteArray.empty x105004 0).extract (x106001 : Int).toNat ((wrap64 (x106001 + (x106002.size : Int))) : Int).toNat).toList = x106003.toList then (some 0) else (some 31)) else (none)) else (none)) else (none)) else (none))
end
def page_stands.f (k : Nat) (a0_0 : Int) (a0_1 : Int) (a0_2 : Int) (a0_3 : ByteArray) (l0_4 : List ByteArray) (a1_0 : Int) (a1_1 : Int) (a1_2 : ByteArray) (a1_3 : ByteArray) : Option (Int) := if a1_0 = 2 then (if a1_1 > (l0_4.length : Int) then (some 1) else (if (l0_4.length : Int) ≥ 64 then (some 3) else (some 0))) else (if a1_0 = 3 then (page_stands.j0 k a1_0 (a1_0 == 3) a0_0 a0_1 a0_2 a0_3 l0_4 a1_0 a1_1 a1_2 a1_3) else (page_stands.j0 k a1_0 (a1_0 == 4) a0_0 a0_1 a0_2 a0_3 l0_4 a1_0 a1_1 a1_2 a1_3))
def page_stands.T11 : Bool × List (List Nat × List Nat) := (true, [([], []), ([0], [0]), ([], []), ([2], [2]), ([1, 3], [1, 3]), ([4], [4]), ([], []), ([6], [6]), ([5, 7], [5, 7])])
def page_stands.B11 : List Nat := [0, 1, 0, 4, 15, 31, 0, 64, 255]
theorem page_stands.tab11 : rtab .any (opsOf Try.f48 11) = page_stands.T11 := by kernel_rfl
theorem page_stands.bits11 : waitsOk page_stands.T11.2 page_stands.B11 = true := by kernel_rfl
def page_stands.T19 : Bool × List (List Nat × List Nat) := (true, [([], []), ([0], [0]), ([], []), ([2], [2]), ([1, 3], [1, 3]), ([], []), ([5], [5]), ([4, 6], [4, 6])])
def page_stands.B19 : List Nat := [0, 1, 0, 4, 15, 0, 32, 127]
theorem page_stands.tab19 : rtab .any (opsOf Try.f48 19) = page_stands.T19 := by kernel_rfl
theorem page_stands.bits19 : waitsOk page_stands.T19.2 page_stands.B19 = true := by kernel_rfl
def page_stands.T22 : Bool × List (List Nat × List Nat) := (true, [([], []), ([0], [0]), ([1], [1]), ([2], [2]), ([3], [3]), ([4], [4]), ([5, 4], [4, 5]), ([6, 4], [4, 6]), ([7, 4], [4, 7]), ([8, 4], [4, 8]), ([4], [4]), ([10, 4], [4, 10]), ([9, 11, 4], [4, 9, 11]), ([4], [4]), ([13, 4], [4, 13]), ([14, 4], [4, 14]), ([12, 15, 4], [4, 12, 15]), ([4, 16], [4, 16])])
def page_stands.B22 : List Nat := [0, 1, 3, 7, 15, 31, 63, 127, 255, 511, 31, 1055, 4095, 31, 8223, 24607, 65535, 131071]
theorem page_stands.tab22 : rtab .any (opsOf Try.f48 22) = page_stands.T22 := by kernel_rfl
theorem page_stands.bits22 : waitsOk page_stands.T22.2 page_stands.B22 = true := by kernel_rfl
def page_stands.T24 : Bool × List (List Nat × List Nat) := (true, [([], []), ([0], [0]), ([1], [1]), ([2], [2]), ([], []), ([4], [4]), ([], []), ([6], [6]), ([], []), ([8], [8]), ([9], [9]), ([7, 10], [7, 10]), ([3, 5, 11], [3, 5, 11]), ([], []), ([13], [13]), ([12, 14], [12, 14])])
def page_stands.B24 : List Nat := [0, 1, 3, 7, 0, 16, 0, 64, 0, 256, 768, 1984, 4095, 0, 8192, 32767]
theorem page_stands.tab24 : rtab .any (opsOf Try.f48 24) = page_stands.T24 := by kernel_rfl
theorem page_stands.bits24 : waitsOk page_stands.T24.2 page_stands.B24 = true := by kernel_rfl
set_option maxHeartbeats 8000000 in
set_option maxRecDepth 100000 in
theorem page_stands.calls (k : Nat) (a0_0 : Int) (a0_1 : Int) (a0_2 : Int) (a0_3 : ByteArray) (A0_4 : Option Addr) (c0_4 : Nat) (l0_4 : List ByteArray) (a1_0 : Int) (a1_1 : Int) (a1_2 : ByteArray) (a1_3 : ByteArray) (r : Int) (w : World) (hr0_4 : Kd.C Kd.string w A0_4 l0_4.length l0_4) (hc0_4 : l0_4.length ≤ c0_4) (h : page_stands.f k a0_0 a0_1 a0_2 a0_3 l0_4 a1_0 a1_1 a1_2 a1_3 = some r) :
  Calls Try.prog 48 #[.agg #[.int .u32 a0_0, .int .u64 a0_1, .int .i64 a0_2, .string a0_3, .slice A0_4 l0_4.length c0_4], .agg #[.int .i64 a1_0, .int .i64 a1_1, .string a1_2, .string a1_3]] w fun e w' => e = .returned (.int .i64 r) ∧ Below w.heap.size w w' := by
 have hu28 := Try.underlying28
 have hu54 := Try.underlying54
 have HR0_4 := Aside0.mk hr0_4
 have HC0_4 := Aside0.mk hc0_4
 clear hr0_4 hc0_4
 have HB := Aside0.mk (Below.refl w.heap.size w)
 have H : (if a1_0 = 2 then (if a1_1 > (l0_4.length : Int) then (some 1) else (if (l0_4.length : Int) ≥ 64 then (some 3) else (some 0))) else (if a1_0 = 3 then (page_stands.j0 k a1_0 (a1_0 == 3) a0_0 a0_1 a0_2 a0_3 l0_4 a1_0 a1_1 a1_2 a1_3) else (page_stands.j0 k a1_0 (a1_0 == 4) a0_0 a0_1 a0_2 a0_3 l0_4 a1_0 a1_1 a1_2 a1_3))) = some r := h
 clear h
 by_cases c3 : a1_0 = 2
 ·rw [if_pos c3] at H
  have c3b0 : (a1_0 == 2) = true := beq_iff_eq.mpr c3
  have c3b1 : (a1_0 != 2) = false := bne_eq_false_iff_eq.mpr c3
  clear c3
  by_cases c4 : a1_1 > (l0_4.length : Int)
  ·rw [if_pos c4] at H
   have c4b0 : decide ((l0_4.length : Int) < a1_1) = true := decide_eq_true c4
   clear c4
   obtain rfl := Option.some.inj H
   go_enter Try.func48, Try.ntmps48
   go_wp2_with (first | ((with_reducible refine gate_dst (N := 2) rfl ?_); (try (refine gate_guard (by rfl) ?_; dsimp only)); refine box_event ?hg (N := 2) ?hd (cs := #[.int .u32 a0_0, .int .u64 a0_1, .int .i64 a0_2, .string a0_3, .slice A0_4 l0_4.length c0_4]) (t := 28) ?hr ?_; (case hd => rfl); (case hg => rfl); (case hr => first | (go_simp; done) | (go_simp; rfl)); intro gb104 hg w5 hbox hb; have n0_ := Aside0.mk (below_step (by repeat (first | (with_reducible first | exact HB.out | apply below_alloc | apply pw_below_drewN | apply below_drew1) | exact HB.out)) hb); have n1_ := Aside0.mk (hbox); have n2_ := Aside0.mk ((by rw [hg]; exact (below_size (by repeat (first | (with_reducible first | exact HB.out | apply below_alloc | apply pw_below_drewN | apply below_drew1) | exact HB.out))) : w.heap.size ≤ gb104)); have n3_ := Aside0.mk ((by rw [hg]; exact (below_size (by repeat (first | (with_reducible first | exact HB.out | apply below_alloc | apply pw_below_drewN | apply below_drew1) | exact HB.out))) : w.heap.size ≤ gb104)); clear HB; have HB := n0_; have BK104 := n1_; have GW104 := n2_; have GE104 := n3_; clear n0_ n1_ n2_ n3_; clear hb hbox hg) | ((with_reducible refine gate_dst (N := 3) rfl ?_); (try (refine gate_guard (by rfl) ?_; dsimp only)); refine box_event ?hg (N := 3) ?hd (cs := #[.int .i64 a1_0, .int .i64 a1_1, .string a1_2, .string a1_3]) (t := 54) ?hr ?_; (case hd => rfl); (case hg => rfl); (case hr => first | (go_simp; done) | (go_simp; rfl)); intro gb105 hg w6 hbox hb; have n0_ := Aside0.mk (blk_below (g := gb104) (o := .cells #[.int .u32 a0_0, .int .u64 a0_1, .int .i64 a0_2, .string a0_3, .slice A0_4 l0_4.length c0_4] 28 (0, 0)) (by (with_reducible repeat (first | refine blk_drewN ?_ _ | refine blk_drew ?_ | refine blk_alloc ?_ _)); exact BK104.out) hb); have n1_ := Aside0.mk (below_step (by repeat (first | (with_reducible first | exact HB.out | apply below_alloc | apply pw_below_drewN | apply below_drew1 | refine below_set ?_ GE104.out) | exact HB.out)) hb); have n2_ := Aside0.mk (hbox); have n3_ := Aside0.mk ((by rw [hg]; exact (below_size (by repeat (first | (with_reducible first | exact HB.out | apply below_alloc | apply pw_below_drewN | apply below_drew1 | refine below_set ?_ GE104.out) | exact HB.out))) : w.heap.size ≤ gb105)); have n4_ := Aside0.mk ((by rw [hg]; exact (below_size (by repeat (first | (with_reducible first | exact HB.out | apply below_alloc | apply pw_below_drewN | apply below_drew1 | refine below_set ?_ GE104.out) | exact HB.out))) : w.heap.size ≤ gb105)); have n5_ := Aside0.mk ((by rw [hg]; exact Nat.ne_of_lt (blk_lt (g := gb104) (o := .cells #[.int .u32 a0_0, .int .u64 a0_1, .int .i64 a0_2, .string a0_3, .slice A0_4 l0_4.length c0_4] 28 (0, 0)) (by (with_reducible repeat (first | refine blk_drewN ?_ _ | refine blk_drew ?_ | refine blk_alloc ?_ _)); exact BK104.out)) : gb104 ≠ gb105)); have n6_ := Aside0.mk ((by rw [hg]; exact Nat.ne_of_gt (blk_lt (g := gb104) (o := .cells #[.int .u32 a0_0, .int .u64 a0_1, .int .i64 a0_2, .string a0_3, .slice A0_4 l0_4.length c0_4] 28 (0, 0)) (by (with_reducible repeat (first | refine blk_drewN ?_ _ | refine blk_drew ?_ | refine blk_alloc ?_ _)); exact BK104.out)) : gb105 ≠ gb104)); clear BK104; clear HB; have BK104 := n0_; have HB := n1_; have BK105 := n2_; have GW105 := n3_; have GE105 := n4_; have NB104_105 := n5_; have NB105_104 := n6_; clear n0_ n1_ n2_ n3_ n4_ n5_ n6_; clear hb hbox hg; have hnb7 := NB105_104.out; have hnc7 := NB104_105.out; have hcz8_0 : w6.cell? ⟨gb105, 0, none⟩ = some (.int .i64 a1_0) := (blk_cell BK105.out 0).trans rfl; have hcz8_1 : w6.cell? ⟨gb105, 1, none⟩ = some (.int .i64 a1_1) := (blk_cell BK105.out 1).trans rfl; have hcz8_2 : w6.cell? ⟨gb105, 2, none⟩ = some (.string a1_2) := (blk_cell BK105.out 2).trans rfl; have hcz8_3 : w6.cell? ⟨gb105, 3, none⟩ = some (.string a1_3) := (blk_cell BK105.out 3).trans rfl; have hfz8_0 := blk_frozen BK105.out 0; have hfz8_1 := blk_frozen BK105.out 1; have hfz8_2 := blk_frozen BK105.out 2; have hfz8_3 := blk_frozen BK105.out 3; have hcz9_0 : w6.cell? ⟨gb104, 0, none⟩ = some (.int .u32 a0_0) := (blk_cell BK104.out 0).trans rfl; have hcz9_1 : w6.cell? ⟨gb104, 1, none⟩ = some (.int .u64 a0_1) := (blk_cell BK104.out 1).trans rfl; have hcz9_2 : w6.cell? ⟨gb104, 2, none⟩ = some (.int .i64 a0_2) := (blk_cell BK104.out 2).trans rfl; have hcz9_3 : w6.cell? ⟨gb104, 3, none⟩ = some (.string a0_3) := (blk_cell BK104.out 3).trans rfl; have hcz9_4 : w6.cell? ⟨gb104, 4, none⟩ = some (.slice A0_4 l0_4.length c0_4) := (blk_cell BK104.out 4).trans rfl; have hfz9_0 := blk_frozen BK104.out 0; have hfz9_1 := blk_frozen BK104.out 1; have hfz9_2 := blk_frozen BK104.out 2; have hfz9_3 := blk_frozen BK104.out 3; have hfz9_4 := blk_frozen BK104.out 4))
   go_ret
   exact ⟨by first | rfl | (simp [errW_none, errW_some] <;> rfl) | (simp [*, errW_none, errW_some] <;> rfl), by repeat (first | (with_reducible first | exact HB.out | apply below_alloc | apply pw_below_drewN | apply below_drew1 | refine below_set ?_ GE104.out | refine below_set ?_ GE105.out) | exact HB.out)⟩
  ·rw [if_neg c4] at H
   have c4b0 : decide ((l0_4.length : Int) < a1_1) = false := decide_eq_false c4
   clear c4
   by_cases c10 : (l0_4.length : Int) ≥ 64
   ·rw [if_pos c10] at H
    have c10b0 : decide (64 ≤ (l0_4.length : Int)) = true := decide_eq_true c10
    have c10b1 : decide (64 ≤ l0_4.length) = true := decide_eq_true (by omega)
    clear c10
    obtain rfl := Option.some.inj H
    go_enter Try.func48, Try.ntmps48
    go_wp2_with (first | ((with_reducible refine gate_dst (N := 2) rfl ?_); (try (refine gate_guard (by rfl) ?_; dsimp only)); refine box_event ?hg (N := 2) ?hd (cs := #[.int .u32 a0_0, .int .u64 a0_1, .int .i64 a0_2, .string a0_3, .slice A0_4 l0_4.length c0_4]) (t := 28) ?hr ?_; (case hd => rfl); (case hg => rfl); (case hr => first | (go_simp; done) | (go_simp; rfl)); intro gb104 hg w11 hbox hb; have n0_ := Aside0.mk (below_step (by repeat (first | (with_reducible first | exact HB.out | apply below_alloc | apply pw_below_drewN | apply below_drew1) | exact HB.out)) hb); have n1_ := Aside0.mk (hbox); have n2_ := Aside0.mk ((by rw [hg]; exact (below_size (by repeat (first | (with_reducible first | exact HB.out | apply below_alloc | apply pw_below_drewN | apply below_drew1) | exact HB.out))) : w.heap.size ≤ gb104)); have n3_ := Aside0.mk ((by rw [hg]; exact (below_size (by repeat (first | (with_reducible first | exact HB.out | apply below_alloc | apply pw_below_drewN | apply below_drew1) | exact HB.out))) : w.heap.size ≤ gb104)); clear HB; have HB := n0_; have BK104 := n1_; have GW104 := n2_; have GE104 := n3_; clear n0_ n1_ n2_ n3_; clear hb hbox hg) | ((with_reducible refine gate_dst (N := 3) rfl ?_); (try (refine gate_guard (by rfl) ?_; dsimp only)); refine box_event ?hg (N := 3) ?hd (cs := #[.int .i64 a1_0, .int .i64 a1_1, .string a1_2, .string a1_3]) (t := 54) ?hr ?_; (case hd => rfl); (case hg => rfl); (case hr => first | (go_simp; done) | (go_simp; rfl)); intro gb105 hg w12 hbox hb; have n0_ := Aside0.mk (blk_below (g := gb104) (o := .cells #[.int .u32 a0_0, .int .u64 a0_1, .int .i64 a0_2, .string a0_3, .slice A0_4 l0_4.length c0_4] 28 (0, 0)) (by (with_reducible repeat (first | refine blk_drewN ?_ _ | refine blk_drew ?_ | refine blk_alloc ?_ _)); exact BK104.out) hb); have n1_ := Aside0.mk (below_step (by repeat (first | (with_reducible first | exact HB.out | apply below_alloc | apply pw_below_drewN | apply below_drew1 | refine below_set ?_ GE104.out) | exact HB.out)) hb); have n2_ := Aside0.mk (hbox); have n3_ := Aside0.mk ((by rw [hg]; exact (below_size (by repeat (first | (with_reducible first | exact HB.out | apply below_alloc | apply pw_below_drewN | apply below_drew1 | refine below_set ?_ GE104.out) | exact HB.out))) : w.heap.size ≤ gb105)); have n4_ := Aside0.mk ((by rw [hg]; exact (below_size (by repeat (first | (with_reducible first | exact HB.out | apply below_alloc | apply pw_below_drewN | apply below_drew1 | refine below_set ?_ GE104.out) | exact HB.out))) : w.heap.size ≤ gb105)); have n5_ := Aside0.mk ((by rw [hg]; exact Nat.ne_of_lt (blk_lt (g := gb104) (o := .cells #[.int .u32 a0_0, .int .u64 a0_1, .int .i64 a0_2, .string a0_3, .slice A0_4 l0_4.length c0_4] 28 (0, 0)) (by (with_reducible repeat (first | refine blk_drewN ?_ _ | refine blk_drew ?_ | refine blk_alloc ?_ _)); exact BK104.out)) : gb104 ≠ gb105)); have n6_ := Aside0.mk ((by rw [hg]; exact Nat.ne_of_gt (blk_lt (g := gb104) (o := .cells #[.int .u32 a0_0, .int .u64 a0_1, .int .i64 a0_2, .string a0_3, .slice A0_4 l0_4.length c0_4] 28 (0, 0)) (by (with_reducible repeat (first | refine blk_drewN ?_ _ | refine blk_drew ?_ | refine blk_alloc ?_ _)); exact BK104.out)) : gb105 ≠ gb104)); clear BK104; clear HB; have BK104 := n0_; have HB := n1_; have BK105 := n2_; have GW105 := n3_; have GE105 := n4_; have NB104_105 := n5_; have NB105_104 := n6_; clear n0_ n1_ n2_ n3_ n4_ n5_ n6_; clear hb hbox hg; have hnb13 := NB105_104.out; have hnc13 := NB104_105.out; have hcz14_0 : w12.cell? ⟨gb105, 0, none⟩ = some (.int .i64 a1_0) := (blk_cell BK105.out 0).trans rfl; have hcz14_1 : w12.cell? ⟨gb105, 1, none⟩ = some (.int .i64 a1_1) := (blk_cell BK105.out 1).trans rfl; have hcz14_2 : w12.cell? ⟨gb105, 2, none⟩ = some (.string a1_2) := (blk_cell BK105.out 2).trans rfl; have hcz14_3 : w12.cell? ⟨gb105, 3, none⟩ = some (.string a1_3) := (blk_cell BK105.out 3).trans rfl; have hfz14_0 := blk_frozen BK105.out 0; have hfz14_1 := blk_frozen BK105.out 1; have hfz14_2 := blk_frozen BK105.out 2; have hfz14_3 := blk_frozen BK105.out 3; have hcz15_0 : w12.cell? ⟨gb104, 0, none⟩ = some (.int .u32 a0_0) := (blk_cell BK104.out 0).trans rfl; have hcz15_1 : w12.cell? ⟨gb104, 1, none⟩ = some (.int .u64 a0_1) := (blk_cell BK104.out 1).trans rfl; have hcz15_2 : w12.cell? ⟨gb104, 2, none⟩ = some (.int .i64 a0_2) := (blk_cell BK104.out 2).trans rfl; have hcz15_3 : w12.cell? ⟨gb104, 3, none⟩ = some (.string a0_3) := (blk_cell BK104.out 3).trans rfl; have hcz15_4 : w12.cell? ⟨gb104, 4, none⟩ = some (.slice A0_4 l0_4.length c0_4) := (blk_cell BK104.out 4).trans rfl; have hfz15_0 := blk_frozen BK104.out 0; have hfz15_1 := blk_frozen BK104.out 1; have hfz15_2 := blk_frozen BK104.out 2; have hfz15_3 := blk_frozen BK104.out 3; have hfz15_4 := blk_frozen BK104.out 4))
    go_ret
    exact ⟨by first | rfl | (simp [errW_none, errW_some] <;> rfl) | (simp [*, errW_none, errW_some] <;> rfl), by repeat (first | (with_reducible first | exact HB.out | apply below_alloc | apply pw_below_drewN | apply below_drew1 | refine below_set ?_ GE104.out | refine below_set ?_ GE105.out) | exact HB.out)⟩
   ·rw [if_neg c10] at H
    have c10b0 : decide (64 ≤ (l0_4.length : Int)) = false := decide_eq_false c10
    have c10b1 : decide (64 ≤ l0_4.length) = false := decide_eq_false (by omega)
    clear c10
    obtain rfl := Option.some.inj H
    go_enter Try.func48, Try.ntmps48
    go_wp2_with (first | ((with_reducible refine gate_dst (N := 2) rfl ?_); (try (refine gate_guard (by rfl) ?_; dsimp only)); refine box_event ?hg (N := 2) ?hd (cs := #[.int .u32 a0_0, .int .u64 a0_1, .int .i64 a0_2, .string a0_3, .slice A0_4 l0_4.length c0_4]) (t := 28) ?hr ?_; (case hd => rfl); (case hg => rfl); (case hr => first | (go_simp; done) | (go_simp; rfl)); intro gb104 hg w16 hbox hb; have n0_ := Aside0.mk (below_step (by repeat (first | (with_reducible first | exact HB.out | apply below_alloc | apply pw_below_drewN | apply below_drew1) | exact HB.out)) hb); have n1_ := Aside0.mk (hbox); have n2_ := Aside0.mk ((by rw [hg]; exact (below_size (by repeat (first | (with_reducible first | exact HB.out | apply below_alloc | apply pw_below_drewN | apply below_drew1) | exact HB.out))) : w.heap.size ≤ gb104)); have n3_ := Aside0.mk ((by rw [hg]; exact (below_size (by repeat (first | (with_reducible first | exact HB.out | apply below_alloc | apply pw_below_drewN | apply below_drew1) | exact HB.out))) : w.heap.size ≤ gb104)); clear HB; have HB := n0_; have BK104 := n1_; have GW104 := n2_; have GE104 := n3_; clear n0_ n1_ n2_ n3_; clear hb hbox hg) | ((with_reducible refine gate_dst (N := 3) rfl ?_); (try (refine gate_guard (by rfl) ?_; dsimp only)); refine box_event ?hg (N := 3) ?hd (cs := #[.int .i64 a1_0, .int .i64 a1_1, .string a1_2, .string a1_3]) (t := 54) ?hr ?_; (case hd => rfl); (case hg => rfl); (case hr => first | (go_simp; done) | (go_simp; rfl)); intro gb105 hg w17 hbox hb; have n0_ := Aside0.mk (blk_below (g := gb104) (o := .cells #[.int .u32 a0_0, .int .u64 a0_1, .int .i64 a0_2, .string a0_3, .slice A0_4 l0_4.length c0_4] 28 (0, 0)) (by (with_reducible repeat (first | refine blk_drewN ?_ _ | refine blk_drew ?_ | refine blk_alloc ?_ _)); exact BK104.out) hb); have n1_ := Aside0.mk (below_step (by repeat (first | (with_reducible first | exact HB.out | apply below_alloc | apply pw_below_drewN | apply below_drew1 | refine below_set ?_ GE104.out) | exact HB.out)) hb); have n2_ := Aside0.mk (hbox); have n3_ := Aside0.mk ((by rw [hg]; exact (below_size (by repeat (first | (with_reducible first | exact HB.out | apply below_alloc | apply pw_below_drewN | apply below_drew1 | refine below_set ?_ GE104.out) | exact HB.out))) : w.heap.size ≤ gb105)); have n4_ := Aside0.mk ((by rw [hg]; exact (below_size (by repeat (first | (with_reducible first | exact HB.out | apply below_alloc | apply pw_below_drewN | apply below_drew1 | refine below_set ?_ GE104.out) | exact HB.out))) : w.heap.size ≤ gb105)); have n5_ := Aside0.mk ((by rw [hg]; exact Nat.ne_of_lt (blk_lt (g := gb104) (o := .cells #[.int .u32 a0_0, .int .u64 a0_1, .int .i64 a0_2, .string a0_3, .slice A0_4 l0_4.length c0_4] 28 (0, 0)) (by (with_reducible repeat (first | refine blk_drewN ?_ _ | refine blk_drew ?_ | refine blk_alloc ?_ _)); exact BK104.out)) : gb104 ≠ gb105)); have n6_ := Aside0.mk ((by rw [hg]; exact Nat.ne_of_gt (blk_lt (g := gb104) (o := .cells #[.int .u32 a0_0, .int .u64 a0_1, .int .i64 a0_2, .string a0_3, .slice A0_4 l0_4.length c0_4] 28 (0, 0)) (by (with_reducible repeat (first | refine blk_drewN ?_ _ | refine blk_drew ?_ | refine blk_alloc ?_ _)); exact BK104.out)) : gb105 ≠ gb104)); clear BK104; clear HB; have BK104 := n0_; have HB := n1_; have BK105 := n2_; have GW105 := n3_; have GE105 := n4_; have NB104_105 := n5_; have NB105_104 := n6_; clear n0_ n1_ n2_ n3_ n4_ n5_ n6_; clear hb hbox hg; have hnb18 := NB105_104.out; have hnc18 := NB104_105.out; have hcz19_0 : w17.cell? ⟨gb105, 0, none⟩ = some (.int .i64 a1_0) := (blk_cell BK105.out 0).trans rfl; have hcz19_1 : w17.cell? ⟨gb105, 1, none⟩ = some (.int .i64 a1_1) := (blk_cell BK105.out 1).trans rfl; have hcz19_2 : w17.cell? ⟨gb105, 2, none⟩ = some (.string a1_2) := (blk_cell BK105.out 2).trans rfl; have hcz19_3 : w17.cell? ⟨gb105, 3, none⟩ = some (.string a1_3) := (blk_cell BK105.out 3).trans rfl; have hfz19_0 := blk_frozen BK105.out 0; have hfz19_1 := blk_frozen BK105.out 1; have hfz19_2 := blk_frozen BK105.out 2; have hfz19_3 := blk_frozen BK105.out 3; have hcz20_0 : w17.cell? ⟨gb104, 0, none⟩ = some (.int .u32 a0_0) := (blk_cell BK104.out 0).trans rfl; have hcz20_1 : w17.cell? ⟨gb104, 1, none⟩ = some (.int .u64 a0_1) := (blk_cell BK104.out 1).trans rfl; have hcz20_2 : w17.cell? ⟨gb104, 2, none⟩ = some (.int .i64 a0_2) := (blk_cell BK104.out 2).trans rfl; have hcz20_3 : w17.cell? ⟨gb104, 3, none⟩ = some (.string a0_3) := (blk_cell BK104.out 3).trans rfl; have hcz20_4 : w17.cell? ⟨gb104, 4, none⟩ = some (.slice A0_4 l0_4.length c0_4) := (blk_cell BK104.out 4).trans rfl; have hfz20_0 := blk_frozen BK104.out 0; have hfz20_1 := blk_frozen BK104.out 1; have hfz20_2 := blk_frozen BK104.out 2; have hfz20_3 := blk_frozen BK104.out 3; have hfz20_4 := blk_frozen BK104.out 4))
    go_ret
    exact ⟨by first | rfl | (simp [errW_none, errW_some] <;> rfl) | (simp [*, errW_none, errW_some] <;> rfl), by repeat (first | (with_reducible first | exact HB.out | apply below_alloc | apply pw_below_drewN | apply below_drew1 | refine below_set ?_ GE104.out | refine below_set ?_ GE105.out) | exact HB.out)⟩
 ·rw [if_neg c3] at H
  have c3b0 : (a1_0 == 2) = false := beq_eq_false_iff_ne.mpr c3
  have c3b1 : (a1_0 != 2) = true := bne_iff_ne.mpr c3
  have HC21 := Aside0.mk H
  clear H
  go_enter Try.func48, Try.ntmps48
  go_upto_if 19 with (first | ((with_reducible refine gate_dst (N := 2) rfl ?_); (try (refine gate_guard (by rfl) ?_; dsimp only)); refine box_event ?hg (N := 2) ?hd (cs := #[.int .u32 a0_0, .int .u64 a0_1, .int .i64 a0_2, .string a0_3, .slice A0_4 l0_4.length c0_4]) (t := 28) ?hr ?_; (case hd => rfl); (case hg => rfl); (case hr => first | (go_simp; done) | (go_simp; rfl)); intro gb104 hg w22 hbox hb; have n0_ := Aside0.mk (below_step (by repeat (first | (with_reducible first | exact HB.out | apply below_alloc | apply pw_below_drewN | apply below_drew1) | exact HB.out)) hb); have n1_ := Aside0.mk (hbox); have n2_ := Aside0.mk ((by rw [hg]; exact (below_size (by repeat (first | (with_reducible first | exact HB.out | apply below_alloc | apply pw_below_drewN | apply below_drew1) | exact HB.out))) : w.heap.size ≤ gb104)); have n3_ := Aside0.mk ((by rw [hg]; exact (below_size (by repeat (first | (with_reducible first | exact HB.out | apply below_alloc | apply pw_below_drewN | apply below_drew1) | exact HB.out))) : w.heap.size ≤ gb104)); clear HB; have HB := n0_; have BK104 := n1_; have GW104 := n2_; have GE104 := n3_; clear n0_ n1_ n2_ n3_; clear hb hbox hg) | ((with_reducible refine gate_dst (N := 3) rfl ?_); (try (refine gate_guard (by rfl) ?_; dsimp only)); refine box_event ?hg (N := 3) ?hd (cs := #[.int .i64 a1_0, .int .i64 a1_1, .string a1_2, .string a1_3]) (t := 54) ?hr ?_; (case hd => rfl); (case hg => rfl); (case hr => first | (go_simp; done) | (go_simp; rfl)); intro gb105 hg w23 hbox hb; have n0_ := Aside0.mk (blk_below (g := gb104) (o := .cells #[.int .u32 a0_0, .int .u64 a0_1, .int .i64 a0_2, .string a0_3, .slice A0_4 l0_4.length c0_4] 28 (0, 0)) (by (with_reducible repeat (first | refine blk_drewN ?_ _ | refine blk_drew ?_ | refine blk_alloc ?_ _)); exact BK104.out) hb); have n1_ := Aside0.mk (below_step (by repeat (first | (with_reducible first | exact HB.out | apply below_alloc | apply pw_below_drewN | apply below_drew1 | refine below_set ?_ GE104.out) | exact HB.out)) hb); have n2_ := Aside0.mk (hbox); have n3_ := Aside0.mk ((by rw [hg]; exact (below_size (by repeat (first | (with_reducible first | exact HB.out | apply below_alloc | apply pw_below_drewN | apply below_drew1 | refine below_set ?_ GE104.out) | exact HB.out))) : w.heap.size ≤ gb105)); have n4_ := Aside0.mk ((by rw [hg]; exact (below_size (by repeat (first | (with_reducible first | exact HB.out | apply below_alloc | apply pw_below_drewN | apply below_drew1 | refine below_set ?_ GE104.out) | exact HB.out))) : w.heap.size ≤ gb105)); have n5_ := Aside0.mk ((by rw [hg]; exact Nat.ne_of_lt (blk_lt (g := gb104) (o := .cells #[.int .u32 a0_0, .int .u64 a0_1, .int .i64 a0_2, .string a0_3, .slice A0_4 l0_4.length c0_4] 28 (0, 0)) (by (with_reducible repeat (first | refine blk_drewN ?_ _ | refine blk_drew ?_ | refine blk_alloc ?_ _)); exact BK104.out)) : gb104 ≠ gb105)); have n6_ := Aside0.mk ((by rw [hg]; exact Nat.ne_of_gt (blk_lt (g := gb104) (o := .cells #[.int .u32 a0_0, .int .u64 a0_1, .int .i64 a0_2, .string a0_3, .slice A0_4 l0_4.length c0_4] 28 (0, 0)) (by (with_reducible repeat (first | refine blk_drewN ?_ _ | refine blk_drew ?_ | refine blk_alloc ?_ _)); exact BK104.out)) : gb105 ≠ gb104)); clear BK104; clear HB; have BK104 := n0_; have HB := n1_; have BK105 := n2_; have GW105 := n3_; have GE105 := n4_; have NB104_105 := n5_; have NB105_104 := n6_; clear n0_ n1_ n2_ n3_ n4_ n5_ n6_; clear hb hbox hg; have hnb24 := NB105_104.out; have hnc24 := NB104_105.out; have hcz25_0 : w23.cell? ⟨gb105, 0, none⟩ = some (.int .i64 a1_0) := (blk_cell BK105.out 0).trans rfl; have hcz25_1 : w23.cell? ⟨gb105, 1, none⟩ = some (.int .i64 a1_1) := (blk_cell BK105.out 1).trans rfl; have hcz25_2 : w23.cell? ⟨gb105, 2, none⟩ = some (.string a1_2) := (blk_cell BK105.out 2).trans rfl; have hcz25_3 : w23.cell? ⟨gb105, 3, none⟩ = some (.string a1_3) := (blk_cell BK105.out 3).trans rfl; have hfz25_0 := blk_frozen BK105.out 0; have hfz25_1 := blk_frozen BK105.out 1; have hfz25_2 := blk_frozen BK105.out 2; have hfz25_3 := blk_frozen BK105.out 3))
  (try simp only [Act.put, List.setIfInBounds_toArray, List.set_cons_zero, List.set_cons_succ])
  go_cut [19] (fun v19 wc => ∃ (kq : Nat) (x19_20 : Bool), v19 = .bool x19_20 ∧ Aside0 (page_stands.j0 kq a1_0 x19_20 a0_0 a0_1 a0_2 a0_3 l0_4 a1_0 a1_1 a1_2 a1_3 = some r) ∧ Aside0 (kq ≤ k) ∧ Aside0 (wc.heap[gb104]? = some (.cells #[.int .u32 a0_0, .int .u64 a0_1, .int .i64 a0_2, .string a0_3, (.slice A0_4 l0_4.length c0_4)] 28 (0, 0))) ∧ Aside0 (wc.heap[gb105]? = some (.cells #[.int .i64 a1_0, .int .i64 a1_1, .string a1_2, .string a1_3] 54 (0, 0))) ∧ Aside0 (Below w.heap.size w wc))
  case first =>
   have H := HC21.out
   clear HC21
   by_cases c26 : a1_0 = 3
   ·rw [if_pos c26] at H
    have c26b0 : (a1_0 == 3) = true := beq_iff_eq.mpr c26
    have c26b1 : (a1_0 != 3) = false := bne_eq_false_iff_eq.mpr c26
    clear c26
    (first | rw [c26b0] | (simp only [i64_w, i32_w]; rw [c26b0]) | skip)
    have H' := Aside0.mk H
    clear H
    go_wp2
    go_meet
    case rel => exact ⟨_, ((a1_0 == 3)), (by first | rfl | (simp; done) | (simp [*]; done)), H', ⟨by first | omega | exact Nat.le_refl _⟩, ⟨by (with_reducible repeat (first | refine blk_drewN ?_ _ | refine blk_drew ?_ | refine blk_alloc ?_ _)); exact BK104.out⟩, ⟨by (with_reducible repeat (first | refine blk_drewN ?_ _ | refine blk_drew ?_ | refine blk_alloc ?_ _)); exact BK105.out⟩, ⟨by repeat (first | (with_reducible first | exact HB.out | apply below_alloc | apply pw_below_drewN | apply below_drew1 | refine below_set ?_ GE104.out | refine below_set ?_ GE105.out) | exact HB.out)⟩⟩
   ·rw [if_neg c26] at H
    have c26b0 : (a1_0 == 3) = false := beq_eq_false_iff_ne.mpr c26
    have c26b1 : (a1_0 != 3) = true := bne_iff_ne.mpr c26
    (first | rw [c26b0] | (simp only [i64_w, i32_w]; rw [c26b0]) | skip)
    have H' := Aside0.mk H
    clear H
    go_wp2
    go_meet
    case rel => exact ⟨_, ((a1_0 == 4)), (by first | rfl | (simp; done) | (simp [*]; done)), H', ⟨by first | omega | exact Nat.le_refl _⟩, ⟨by (with_reducible repeat (first | refine blk_drewN ?_ _ | refine blk_drew ?_ | refine blk_alloc ?_ _)); exact BK104.out⟩, ⟨by (with_reducible repeat (first | refine blk_drewN ?_ _ | refine blk_drew ?_ | refine blk_alloc ?_ _)); exact BK105.out⟩, ⟨by repeat (first | (with_reducible first | exact HB.out | apply below_alloc | apply pw_below_drewN | apply below_drew1 | refine below_set ?_ GE104.out | refine below_set ?_ GE105.out) | exact HB.out)⟩⟩
  case rest =>
   clear HC21
   try clear c1
   try clear c2
   try clear p2
   try clear c3
   try clear c3b0
   try clear c3b1
   try clear c4
   try clear c4b0
   try clear c7
   try clear c10
   try clear c10b0
   try clear c10b1
   try clear c13
   try clear c18
   try clear c24
   try clear c26
   try clear c26b0
   try clear c26b1
   try clear hcz14_0
   try clear hcz14_1
   try clear hcz14_2
   try clear hcz14_3
   try clear hcz15_0
   try clear hcz15_1
   try clear hcz15_2
   try clear hcz15_3
   try clear hcz15_4
   try clear hcz19_0
   try clear hcz19_1
   try clear hcz19_2
   try clear hcz19_3
   try clear hcz20_0
   try clear hcz20_1
   try clear hcz20_2
   try clear hcz20_3
   try clear hcz20_4
   try clear hcz25_0
   try clear hcz25_1
   try clear hcz25_2
   try clear hcz25_3
   try clear hcz8_0
   try clear hcz8_1
   try clear hcz8_2
   try clear hcz8_3
   try clear hcz9_0
   try clear hcz9_1
   try clear hcz9_2
   try clear hcz9_3
   try clear hcz9_4
   try clear hfz14_0
   try clear hfz14_1
   try clear hfz14_2
   try clear hfz14_3
   try clear hfz15_0
   try clear hfz15_1
   try clear hfz15_2
   try clear hfz15_3
   try clear hfz15_4
   try clear hfz19_0
   try clear hfz19_1
   try clear hfz19_2
   try clear hfz19_3
   try clear hfz20_0
   try clear hfz20_1
   try clear hfz20_2
   try clear hfz20_3
   try clear hfz20_4
   try clear hfz25_0
   try clear hfz25_1
   try clear hfz25_2
   try clear hfz25_3
   try clear hfz8_0
   try clear hfz8_1
   try clear hfz8_2
   try clear hfz8_3
   try clear hfz9_0
   try clear hfz9_1
   try clear hfz9_2
   try clear hfz9_3
   try clear hfz9_4
   obtain ⟨kq, x19_20, rfl, HA, HJ20, BK104, BK105, HB⟩ := hcut
   cases kq with
   | zero => exact absurd HA.out (by simp [page_stands.j0])
   | succ kj20 =>
    have H := HA.out
    clear HA
    simp only [page_stands.j0] at H
    by_cases c27 : x19_20 = true
    ·subst c27
     have H1 : (if a1_1 ≥ (l0_4.length : Int) then (some 1) else (if 0 ≤ a1_1 then (if a1_1 < (l0_4.length : Int) then (if (rdOf ByteArray.empty l0_4 a1_1).toList = a1_3.toList then (some 0) else (some 31)) else (none)) else (none))) = some r := by rw [if_pos rfl] at H; exact H
     clear H
     have H := H1
     clear H1
     by_cases c28 : a1_1 ≥ (l0_4.length : Int)
     ·rw [if_pos c28] at H
      have c28b0 : decide ((l0_4.length : Int) ≤ a1_1) = true := decide_eq_true c28
      clear c28
      obtain rfl := Option.some.inj H
      have hnb29 := NB105_104.out
      have hnc29 := NB104_105.out
      have hcz30_0 : wc.cell? ⟨gb105, 0, none⟩ = some (.int .i64 a1_0) := (blk_cell BK105.out 0).trans rfl
      have hcz30_1 : wc.cell? ⟨gb105, 1, none⟩ = some (.int .i64 a1_1) := (blk_cell BK105.out 1).trans rfl
      have hcz30_2 : wc.cell? ⟨gb105, 2, none⟩ = some (.string a1_2) := (blk_cell BK105.out 2).trans rfl
      have hcz30_3 : wc.cell? ⟨gb105, 3, none⟩ = some (.string a1_3) := (blk_cell BK105.out 3).trans rfl
      have hfz30_0 := blk_frozen BK105.out 0
      have hfz30_1 := blk_frozen BK105.out 1
      have hfz30_2 := blk_frozen BK105.out 2
      have hfz30_3 := blk_frozen BK105.out 3
      have hcz31_0 : wc.cell? ⟨gb104, 0, none⟩ = some (.int .u32 a0_0) := (blk_cell BK104.out 0).trans rfl
      have hcz31_1 : wc.cell? ⟨gb104, 1, none⟩ = some (.int .u64 a0_1) := (blk_cell BK104.out 1).trans rfl
      have hcz31_2 : wc.cell? ⟨gb104, 2, none⟩ = some (.int .i64 a0_2) := (blk_cell BK104.out 2).trans rfl
      have hcz31_3 : wc.cell? ⟨gb104, 3, none⟩ = some (.string a0_3) := (blk_cell BK104.out 3).trans rfl
      have hcz31_4 : wc.cell? ⟨gb104, 4, none⟩ = some (.slice A0_4 l0_4.length c0_4) := (blk_cell BK104.out 4).trans rfl
      have hfz31_0 := blk_frozen BK104.out 0
      have hfz31_1 := blk_frozen BK104.out 1
      have hfz31_2 := blk_frozen BK104.out 2
      have hfz31_3 := blk_frozen BK104.out 3
      have hfz31_4 := blk_frozen BK104.out 4
      go_wp2
      go_ret
      exact ⟨by first | rfl | (simp [errW_none, errW_some] <;> rfl) | (simp [*, errW_none, errW_some] <;> rfl), by repeat (first | (with_reducible first | exact HB.out | apply below_alloc | apply pw_below_drewN | apply below_drew1 | refine below_set ?_ GE104.out | refine below_set ?_ GE105.out) | exact HB.out)⟩
     ·rw [if_neg c28] at H
      have c28b0 : decide ((l0_4.length : Int) ≤ a1_1) = false := decide_eq_false c28
      clear c28
      by_cases c32 : 0 ≤ a1_1
      ·rw [if_pos c32] at H
       have c32b0 : decide (0 ≤ a1_1) = true := decide_eq_true c32
       clear c32
       by_cases c33 : a1_1 < (l0_4.length : Int)
       ·rw [if_pos c33] at H
        have c33b0 : decide (a1_1 < (l0_4.length : Int)) = true := decide_eq_true c33
        clear c33
        by_cases c34 : (rdOf ByteArray.empty l0_4 a1_1).toList = a1_3.toList
        ·rw [if_pos c34] at H
         have c34b0 : ((rdOf ByteArray.empty l0_4 a1_1).toList == a1_3.toList) = true := beq_iff_eq.mpr c34
         have c34b1 : ((rdOf ByteArray.empty l0_4 a1_1).toList != a1_3.toList) = false := bne_eq_false_iff_eq.mpr c34
         clear c34
         obtain rfl := Option.some.inj H
         have hnb35 := NB105_104.out
         have hnc35 := NB104_105.out
         have hcz36_0 : wc.cell? ⟨gb105, 0, none⟩ = some (.int .i64 a1_0) := (blk_cell BK105.out 0).trans rfl
         have hcz36_1 : wc.cell? ⟨gb105, 1, none⟩ = some (.int .i64 a1_1) := (blk_cell BK105.out 1).trans rfl
         have hcz36_2 : wc.cell? ⟨gb105, 2, none⟩ = some (.string a1_2) := (blk_cell BK105.out 2).trans rfl
         have hcz36_3 : wc.cell? ⟨gb105, 3, none⟩ = some (.string a1_3) := (blk_cell BK105.out 3).trans rfl
         have hfz36_0 := blk_frozen BK105.out 0
         have hfz36_1 := blk_frozen BK105.out 1
         have hfz36_2 := blk_frozen BK105.out 2
         have hfz36_3 := blk_frozen BK105.out 3
         have hcz37_0 : wc.cell? ⟨gb104, 0, none⟩ = some (.int .u32 a0_0) := (blk_cell BK104.out 0).trans rfl
         have hcz37_1 : wc.cell? ⟨gb104, 1, none⟩ = some (.int .u64 a0_1) := (blk_cell BK104.out 1).trans rfl
         have hcz37_2 : wc.cell? ⟨gb104, 2, none⟩ = some (.int .i64 a0_2) := (blk_cell BK104.out 2).trans rfl
         have hcz37_3 : wc.cell? ⟨gb104, 3, none⟩ = some (.string a0_3) := (blk_cell BK104.out 3).trans rfl
         have hcz37_4 : wc.cell? ⟨gb104, 4, none⟩ = some (.slice A0_4 l0_4.length c0_4) := (blk_cell BK104.out 4).trans rfl
         have hfz37_0 := blk_frozen BK104.out 0
         have hfz37_1 := blk_frozen BK104.out 1
         have hfz37_2 := blk_frozen BK104.out 2
         have hfz37_3 := blk_frozen BK104.out 3
         have hfz37_4 := blk_frozen BK104.out 4
         try go_wp2
         have n0_ := Aside0.mk (blk_drew BK104.out)
         have n1_ := Aside0.mk (blk_drew BK105.out)
         have n2_ := Aside0.mk (below_drew1 HB.out)
         clear BK104
         clear BK105
         clear HB
         have BK104 := n0_
         have BK105 := n1_
         have HB := n2_
         clear n0_ n1_ n2_
         have p106 : 0 ≤ (a1_1 : Int) := of_decide_eq_true (by first | (with_reducible assumption) | assumption)
         have q106 : a1_1 < (l0_4.length : Int) := of_decide_eq_true (by first | (with_reducible assumption) | assumption)
         obtain ⟨ad106, e106, hx106_0⟩ := Kd.at_string HR0_4.out a1_1 p106 q106
         have hw106_0 := hx106_0
         cases e106
         replace hx106_0 := (HB.out.cell (World.block_lt_of_cell? w _ hx106_0)).trans hx106_0
         replace p106 := eq_true p106
         replace q106 := eq_true q106
         refine start_ (n := 9) (S := fun w' => w'.cell? ⟨gb104, 0, none⟩ = some (.int .u32 a0_0) ∧ w'.cell? ⟨gb104, 1, none⟩ = some (.int .u64 a0_1) ∧ w'.cell? ⟨gb104, 2, none⟩ = some (.int .i64 a0_2) ∧ w'.cell? ⟨gb104, 3, none⟩ = some (.string a0_3) ∧ w'.cell? ⟨gb104, 4, none⟩ = some (.slice (some ad106) l0_4.length c0_4) ∧ w'.cell? ⟨gb105, 0, none⟩ = some (.int .i64 a1_0) ∧ w'.cell? ⟨gb105, 1, none⟩ = some (.int .i64 a1_1) ∧ w'.cell? ⟨gb105, 2, none⟩ = some (.string a1_2) ∧ w'.cell? ⟨gb105, 3, none⟩ = some (.string a1_3) ∧ w'.cell? (ad106.add (a1_1).toNat) = some (.string (rdOf ByteArray.empty l0_4 a1_1))) (ds := []) #[false, false, false, false, false, false, false, false, false] (by kernel_rfl) rfl rfl ⟨(blk_cell BK104.out 0).trans rfl, (blk_cell BK104.out 1).trans rfl, (blk_cell BK104.out 2).trans rfl, (blk_cell BK104.out 3).trans rfl, (blk_cell BK104.out 4).trans rfl, (blk_cell BK105.out 0).trans rfl, (blk_cell BK105.out 1).trans rfl, (blk_cell BK105.out 2).trans rfl, (blk_cell BK105.out 3).trans rfl, ((HB.out.cell (World.block_lt_of_cell? w _ hw106_0)).trans hw106_0)⟩ (fun hHeld => ?_); refine with_tabW page_stands.tab11 page_stands.bits11 (fun HT_ HW_ => ?_)
         generalize wc.drew = w38 at BK104 BK105 HB hx106_0 hHeld ⊢
         refine pure_ (i := 0) (N := some 28) (v := ?_) (a' := ?_) #[true, false, false, false, false, false, false, false, false] rfl rfl (any_of HT_.out (by kernel_rfl)) (fun _ _ _ h => h) (Or.inl ⟨by rfl, ?_⟩) ?_ ?_
         rotate_left
         ·intro w'
          go_simp
          with_reducible rfl
         rotate_left
         ·simp only [Act.put, List.setIfInBounds_toArray, List.set_cons_zero, List.set_cons_succ, i64_w, i32_w]
          rfl
         refine pure_ (i := 2) (N := some 30) (v := ?_) (a' := ?_) #[true, false, true, false, false, false, false, false, false] rfl rfl (any_of HT_.out (by kernel_rfl)) (fun _ _ _ h => h) (Or.inl ⟨by rfl, ?_⟩) ?_ ?_
         rotate_left
         ·intro w'
          go_simp
          with_reducible rfl
         rotate_left
         ·simp only [Act.put, List.setIfInBounds_toArray, List.set_cons_zero, List.set_cons_succ, i64_w, i32_w]
          rfl
         refine pure_ (i := 6) (N := some 34) (v := ?_) (a' := ?_) #[true, false, true, false, false, false, true, false, false] rfl rfl (any_of HT_.out (by kernel_rfl)) (fun _ _ _ h => h) (Or.inl ⟨by rfl, ?_⟩) ?_ ?_
         rotate_left
         ·intro w'
          go_simp
          with_reducible rfl
         rotate_left
         ·simp only [Act.put, List.setIfInBounds_toArray, List.set_cons_zero, List.set_cons_succ, i64_w, i32_w]
          rfl
         refine take_ (i := 1) (N := some 29) (v := ?_) (a' := ?_) #[true, true, true, false, false, false, true, false, false] rfl rfl (take_ofW HT_.out HW_.out (by kernel_rfl)) (fun _ _ _ h => h) (Or.inl ⟨by rfl, ?_⟩) hHeld ?_ ?_
         rotate_left
         ·rintro w' ⟨s0, s1, s2, s3, s4, s5, s6, s7, s8, s9⟩
          go_simp
          with_reducible rfl
         rotate_left
         ·simp only [Act.put, List.setIfInBounds_toArray, List.set_cons_zero, List.set_cons_succ, i64_w, i32_w]
          rfl
         refine take_ (i := 3) (N := some 31) (v := ?_) (a' := ?_) #[true, true, true, true, false, false, true, false, false] rfl rfl (take_ofW HT_.out HW_.out (by kernel_rfl)) (fun _ _ _ h => h) (Or.inl ⟨by rfl, ?_⟩) hHeld ?_ ?_
         rotate_left
         ·rintro w' ⟨s0, s1, s2, s3, s4, s5, s6, s7, s8, s9⟩
          go_simp
          with_reducible rfl
         rotate_left
         ·simp only [Act.put, List.setIfInBounds_toArray, List.set_cons_zero, List.set_cons_succ, i64_w, i32_w]
          rfl
         refine pure_ (i := 4) (N := some 32) (v := ?_) (a' := ?_) #[true, true, true, true, true, false, true, false, false] rfl rfl (any_of HT_.out (by kernel_rfl)) (fun _ _ _ h => h) (Or.inl ⟨by rfl, ?_⟩) ?_ ?_
         rotate_left
         ·intro w'
          go_simp
          with_reducible rfl
         rotate_left
         ·simp only [Act.put, List.setIfInBounds_toArray, List.set_cons_zero, List.set_cons_succ, i64_w, i32_w]
          rfl
         refine take_ (i := 5) (N := some 33) (v := ?_) (a' := ?_) #[true, true, true, true, true, true, true, false, false] rfl rfl (take_ofW HT_.out HW_.out (by kernel_rfl)) (fun _ _ _ h => h) (Or.inl ⟨by rfl, ?_⟩) hHeld ?_ ?_
         rotate_left
         ·rintro w' ⟨s0, s1, s2, s3, s4, s5, s6, s7, s8, s9⟩
          go_simp
          with_reducible rfl
         rotate_left
         ·simp only [Act.put, List.setIfInBounds_toArray, List.set_cons_zero, List.set_cons_succ, i64_w, i32_w]
          rfl
         refine take_ (i := 7) (N := some 35) (v := ?_) (a' := ?_) #[true, true, true, true, true, true, true, true, false] rfl rfl (take_ofW HT_.out HW_.out (by kernel_rfl)) (fun _ _ _ h => h) (Or.inl ⟨by rfl, ?_⟩) hHeld ?_ ?_
         rotate_left
         ·rintro w' ⟨s0, s1, s2, s3, s4, s5, s6, s7, s8, s9⟩
          go_simp
          with_reducible rfl
         rotate_left
         ·simp only [Act.put, List.setIfInBounds_toArray, List.set_cons_zero, List.set_cons_succ, i64_w, i32_w]
          rfl
         refine pure_ (i := 8) (N := some 36) (v := ?_) (a' := ?_) #[true, true, true, true, true, true, true, true, true] rfl rfl (any_of HT_.out (by kernel_rfl)) (fun _ _ _ h => h) (Or.inl ⟨by rfl, ?_⟩) ?_ ?_
         rotate_left
         ·intro w'
          go_simp
          with_reducible rfl
         rotate_left
         ·simp only [Act.put, List.setIfInBounds_toArray, List.set_cons_zero, List.set_cons_succ, i64_w, i32_w]
          rfl
         refine done_ (done_of HT_.out (by kernel_rfl)) ?_
         try go_wp2
         go_ret
         exact ⟨by first | rfl | (simp [errW_none, errW_some] <;> rfl) | (simp [*, errW_none, errW_some] <;> rfl), by repeat (first | (with_reducible first | exact HB.out | apply below_alloc | apply pw_below_drewN | apply below_drew1 | refine below_set ?_ GE104.out | refine below_set ?_ GE105.out) | exact HB.out)⟩
        ·rw [if_neg c34] at H
         have c34b0 : ((rdOf ByteArray.empty l0_4 a1_1).toList == a1_3.toList) = false := beq_eq_false_iff_ne.mpr c34
         have c34b1 : ((rdOf ByteArray.empty l0_4 a1_1).toList != a1_3.toList) = true := bne_iff_ne.mpr c34
         obtain rfl := Option.some.inj H
         have hnb39 := NB105_104.out
         have hnc39 := NB104_105.out
         have hcz40_0 : wc.cell? ⟨gb105, 0, none⟩ = some (.int .i64 a1_0) := (blk_cell BK105.out 0).trans rfl
         have hcz40_1 : wc.cell? ⟨gb105, 1, none⟩ = some (.int .i64 a1_1) := (blk_cell BK105.out 1).trans rfl
         have hcz40_2 : wc.cell? ⟨gb105, 2, none⟩ = some (.string a1_2) := (blk_cell BK105.out 2).trans rfl
         have hcz40_3 : wc.cell? ⟨gb105, 3, none⟩ = some (.string a1_3) := (blk_cell BK105.out 3).trans rfl
         have hfz40_0 := blk_frozen BK105.out 0
         have hfz40_1 := blk_frozen BK105.out 1
         have hfz40_2 := blk_frozen BK105.out 2
         have hfz40_3 := blk_frozen BK105.out 3
         have hcz41_0 : wc.cell? ⟨gb104, 0, none⟩ = some (.int .u32 a0_0) := (blk_cell BK104.out 0).trans rfl
         have hcz41_1 : wc.cell? ⟨gb104, 1, none⟩ = some (.int .u64 a0_1) := (blk_cell BK104.out 1).trans rfl
         have hcz41_2 : wc.cell? ⟨gb104, 2, none⟩ = some (.int .i64 a0_2) := (blk_cell BK104.out 2).trans rfl
         have hcz41_3 : wc.cell? ⟨gb104, 3, none⟩ = some (.string a0_3) := (blk_cell BK104.out 3).trans rfl
         have hcz41_4 : wc.cell? ⟨gb104, 4, none⟩ = some (.slice A0_4 l0_4.length c0_4) := (blk_cell BK104.out 4).trans rfl
         have hfz41_0 := blk_frozen BK104.out 0
         have hfz41_1 := blk_frozen BK104.out 1
         have hfz41_2 := blk_frozen BK104.out 2
         have hfz41_3 := blk_frozen BK104.out 3
         have hfz41_4 := blk_frozen BK104.out 4
         try go_wp2
         have n0_ := Aside0.mk (blk_drew BK104.out)
         have n1_ := Aside0.mk (blk_drew BK105.out)
         have n2_ := Aside0.mk (below_drew1 HB.out)
         clear BK104
         clear BK105
         clear HB
         have BK104 := n0_
         have BK105 := n1_
         have HB := n2_
         clear n0_ n1_ n2_
         have p106 : 0 ≤ (a1_1 : Int) := of_decide_eq_true (by first | (with_reducible assumption) | assumption)
         have q106 : a1_1 < (l0_4.length : Int) := of_decide_eq_true (by first | (with_reducible assumption) | assumption)
         obtain ⟨ad106, e106, hx106_0⟩ := Kd.at_string HR0_4.out a1_1 p106 q106
         have hw106_0 := hx106_0
         cases e106
         replace hx106_0 := (HB.out.cell (World.block_lt_of_cell? w _ hx106_0)).trans hx106_0
         replace p106 := eq_true p106
         replace q106 := eq_true q106
         refine start_ (n := 9) (S := fun w' => w'.cell? ⟨gb104, 0, none⟩ = some (.int .u32 a0_0) ∧ w'.cell? ⟨gb104, 1, none⟩ = some (.int .u64 a0_1) ∧ w'.cell? ⟨gb104, 2, none⟩ = some (.int .i64 a0_2) ∧ w'.cell? ⟨gb104, 3, none⟩ = some (.string a0_3) ∧ w'.cell? ⟨gb104, 4, none⟩ = some (.slice (some ad106) l0_4.length c0_4) ∧ w'.cell? ⟨gb105, 0, none⟩ = some (.int .i64 a1_0) ∧ w'.cell? ⟨gb105, 1, none⟩ = some (.int .i64 a1_1) ∧ w'.cell? ⟨gb105, 2, none⟩ = some (.string a1_2) ∧ w'.cell? ⟨gb105, 3, none⟩ = some (.string a1_3) ∧ w'.cell? (ad106.add (a1_1).toNat) = some (.string (rdOf ByteArray.empty l0_4 a1_1))) (ds := []) #[false, false, false, false, false, false, false, false, false] (by kernel_rfl) rfl rfl ⟨(blk_cell BK104.out 0).trans rfl, (blk_cell BK104.out 1).trans rfl, (blk_cell BK104.out 2).trans rfl, (blk_cell BK104.out 3).trans rfl, (blk_cell BK104.out 4).trans rfl, (blk_cell BK105.out 0).trans rfl, (blk_cell BK105.out 1).trans rfl, (blk_cell BK105.out 2).trans rfl, (blk_cell BK105.out 3).trans rfl, ((HB.out.cell (World.block_lt_of_cell? w _ hw106_0)).trans hw106_0)⟩ (fun hHeld => ?_); refine with_tabW page_stands.tab11 page_stands.bits11 (fun HT_ HW_ => ?_)
         generalize wc.drew = w42 at BK104 BK105 HB hx106_0 hHeld ⊢
         refine pure_ (i := 0) (N := some 28) (v := ?_) (a' := ?_) #[true, false, false, false, false, false, false, false, false] rfl rfl (any_of HT_.out (by kernel_rfl)) (fun _ _ _ h => h) (Or.inl ⟨by rfl, ?_⟩) ?_ ?_
         rotate_left
         ·intro w'
          go_simp
          with_reducible rfl
         rotate_left
         ·simp only [Act.put, List.setIfInBounds_toArray, List.set_cons_zero, List.set_cons_succ, i64_w, i32_w]
          rfl
         refine pure_ (i := 2) (N := some 30) (v := ?_) (a' := ?_) #[true, false, true, false, false, false, false, false, false] rfl rfl (any_of HT_.out (by kernel_rfl)) (fun _ _ _ h => h) (Or.inl ⟨by rfl, ?_⟩) ?_ ?_
         rotate_left
         ·intro w'
          go_simp
          with_reducible rfl
         rotate_left
         ·simp only [Act.put, List.setIfInBounds_toArray, List.set_cons_zero, List.set_cons_succ, i64_w, i32_w]
          rfl
         refine pure_ (i := 6) (N := some 34) (v := ?_) (a' := ?_) #[true, false, true, false, false, false, true, false, false] rfl rfl (any_of HT_.out (by kernel_rfl)) (fun _ _ _ h => h) (Or.inl ⟨by rfl, ?_⟩) ?_ ?_
         rotate_left
         ·intro w'
          go_simp
          with_reducible rfl
         rotate_left
         ·simp only [Act.put, List.setIfInBounds_toArray, List.set_cons_zero, List.set_cons_succ, i64_w, i32_w]
          rfl
         refine take_ (i := 1) (N := some 29) (v := ?_) (a' := ?_) #[true, true, true, false, false, false, true, false, false] rfl rfl (take_ofW HT_.out HW_.out (by kernel_rfl)) (fun _ _ _ h => h) (Or.inl ⟨by rfl, ?_⟩) hHeld ?_ ?_
         rotate_left
         ·rintro w' ⟨s0, s1, s2, s3, s4, s5, s6, s7, s8, s9⟩
          go_simp
          with_reducible rfl
         rotate_left
         ·simp only [Act.put, List.setIfInBounds_toArray, List.set_cons_zero, List.set_cons_succ, i64_w, i32_w]
          rfl
         refine take_ (i := 3) (N := some 31) (v := ?_) (a' := ?_) #[true, true, true, true, false, false, true, false, false] rfl rfl (take_ofW HT_.out HW_.out (by kernel_rfl)) (fun _ _ _ h => h) (Or.inl ⟨by rfl, ?_⟩) hHeld ?_ ?_
         rotate_left
         ·rintro w' ⟨s0, s1, s2, s3, s4, s5, s6, s7, s8, s9⟩
          go_simp
          with_reducible rfl
         rotate_left
         ·simp only [Act.put, List.setIfInBounds_toArray, List.set_cons_zero, List.set_cons_succ, i64_w, i32_w]
          rfl
         refine pure_ (i := 4) (N := some 32) (v := ?_) (a' := ?_) #[true, true, true, true, true, false, true, false, false] rfl rfl (any_of HT_.out (by kernel_rfl)) (fun _ _ _ h => h) (Or.inl ⟨by rfl, ?_⟩) ?_ ?_
         rotate_left
         ·intro w'
          go_simp
          with_reducible rfl
         rotate_left
         ·simp only [Act.put, List.setIfInBounds_toArray, List.set_cons_zero, List.set_cons_succ, i64_w, i32_w]
          rfl
         refine take_ (i := 5) (N := some 33) (v := ?_) (a' := ?_) #[true, true, true, true, true, true, true, false, false] rfl rfl (take_ofW HT_.out HW_.out (by kernel_rfl)) (fun _ _ _ h => h) (Or.inl ⟨by rfl, ?_⟩) hHeld ?_ ?_
         rotate_left
         ·rintro w' ⟨s0, s1, s2, s3, s4, s5, s6, s7, s8, s9⟩
          go_simp
          with_reducible rfl
         rotate_left
         ·simp only [Act.put, List.setIfInBounds_toArray, List.set_cons_zero, List.set_cons_succ, i64_w, i32_w]
          rfl
         refine take_ (i := 7) (N := some 35) (v := ?_) (a' := ?_) #[true, true, true, true, true, true, true, true, false] rfl rfl (take_ofW HT_.out HW_.out (by kernel_rfl)) (fun _ _ _ h => h) (Or.inl ⟨by rfl, ?_⟩) hHeld ?_ ?_
         rotate_left
         ·rintro w' ⟨s0, s1, s2, s3, s4, s5, s6, s7, s8, s9⟩
          go_simp
          with_reducible rfl
         rotate_left
         ·simp only [Act.put, List.setIfInBounds_toArray, List.set_cons_zero, List.set_cons_succ, i64_w, i32_w]
          rfl
         refine pure_ (i := 8) (N := some 36) (v := ?_) (a' := ?_) #[true, true, true, true, true, true, true, true, true] rfl rfl (any_of HT_.out (by kernel_rfl)) (fun _ _ _ h => h) (Or.inl ⟨by rfl, ?_⟩) ?_ ?_
         rotate_left
         ·intro w'
          go_simp
          with_reducible rfl
         rotate_left
         ·simp only [Act.put, List.setIfInBounds_toArray, List.set_cons_zero, List.set_cons_succ, i64_w, i32_w]
          rfl
         refine done_ (done_of HT_.out (by kernel_rfl)) ?_
         try go_wp2
         go_ret
         exact ⟨by first | rfl | (simp [errW_none, errW_some] <;> rfl) | (simp [*, errW_none, errW_some] <;> rfl), by repeat (first | (with_reducible first | exact HB.out | apply below_alloc | apply pw_below_drewN | apply below_drew1 | refine below_set ?_ GE104.out | refine below_set ?_ GE105.out) | exact HB.out)⟩
       ·rw [if_neg c33] at H
        exact absurd H (by simp)
      ·rw [if_neg c32] at H
       exact absurd H (by simp)
    ·replace c27 := Bool.eq_false_iff.mpr c27
     subst c27
     have H1 : (if a1_0 = 5 then (if a0_3.toList = a1_3.toList then (some 0) else (some 31)) else (if a1_0 = 7 then (if (l0_4.length : Int) = 0 then ((page_Kind.f a0_2 a0_3).bind fun t107 => (if t107.toList = a1_3.toList then (some 0) else (some 31))) else (some 1)) else (if a1_0 = 6 then (if (l0_4.length : Int) = 0 then (page_stands.j1 kj20 true a0_0 a0_1 a0_2 a0_3 l0_4 a1_0 a1_1 a1_2 a1_3) else (if 0 < (l0_4.length : Int) then (page_stands.j1 kj20 (decide ((wrap64 (((rdOf ByteArray.empty l0_4 0).size : Int) - a1_1)) < (a1_2.size : Int))) a0_0 a0_1 a0_2 a0_3 l0_4 a1_0 a1_1 a1_2 a1_3) else (none))) else (some 0)))) = some r := by rw [if_neg (show ¬ (false = true) by decide)] at H; exact H
     clear H
     have H := H1
     clear H1
     by_cases c43 : a1_0 = 5
     ·rw [if_pos c43] at H
      have c43b0 : (a1_0 == 5) = true := beq_iff_eq.mpr c43
      have c43b1 : (a1_0 != 5) = false := bne_eq_false_iff_eq.mpr c43
      clear c43
      by_cases c44 : a0_3.toList = a1_3.toList
      ·rw [if_pos c44] at H
       have c44b0 : (a0_3.toList == a1_3.toList) = true := beq_iff_eq.mpr c44
       have c44b1 : (a0_3.toList != a1_3.toList) = false := bne_eq_false_iff_eq.mpr c44
       clear c44
       obtain rfl := Option.some.inj H
       have hnb45 := NB104_105.out
       have hnc45 := NB105_104.out
       have hcz46_0 : wc.cell? ⟨gb104, 0, none⟩ = some (.int .u32 a0_0) := (blk_cell BK104.out 0).trans rfl
       have hcz46_1 : wc.cell? ⟨gb104, 1, none⟩ = some (.int .u64 a0_1) := (blk_cell BK104.out 1).trans rfl
       have hcz46_2 : wc.cell? ⟨gb104, 2, none⟩ = some (.int .i64 a0_2) := (blk_cell BK104.out 2).trans rfl
       have hcz46_3 : wc.cell? ⟨gb104, 3, none⟩ = some (.string a0_3) := (blk_cell BK104.out 3).trans rfl
       have hcz46_4 : wc.cell? ⟨gb104, 4, none⟩ = some (.slice A0_4 l0_4.length c0_4) := (blk_cell BK104.out 4).trans rfl
       have hfz46_0 := blk_frozen BK104.out 0
       have hfz46_1 := blk_frozen BK104.out 1
       have hfz46_2 := blk_frozen BK104.out 2
       have hfz46_3 := blk_frozen BK104.out 3
       have hfz46_4 := blk_frozen BK104.out 4
       have hcz47_0 : wc.cell? ⟨gb105, 0, none⟩ = some (.int .i64 a1_0) := (blk_cell BK105.out 0).trans rfl
       have hcz47_1 : wc.cell? ⟨gb105, 1, none⟩ = some (.int .i64 a1_1) := (blk_cell BK105.out 1).trans rfl
       have hcz47_2 : wc.cell? ⟨gb105, 2, none⟩ = some (.string a1_2) := (blk_cell BK105.out 2).trans rfl
       have hcz47_3 : wc.cell? ⟨gb105, 3, none⟩ = some (.string a1_3) := (blk_cell BK105.out 3).trans rfl
       have hfz47_0 := blk_frozen BK105.out 0
       have hfz47_1 := blk_frozen BK105.out 1
       have hfz47_2 := blk_frozen BK105.out 2
       have hfz47_3 := blk_frozen BK105.out 3
       go_wp2
       go_ret
       exact ⟨by first | rfl | (simp [errW_none, errW_some] <;> rfl) | (simp [*, errW_none, errW_some] <;> rfl), by repeat (first | (with_reducible first | exact HB.out | apply below_alloc | apply pw_below_drewN | apply below_drew1 | refine below_set ?_ GE104.out | refine below_set ?_ GE105.out) | exact HB.out)⟩
      ·rw [if_neg c44] at H
       have c44b0 : (a0_3.toList == a1_3.toList) = false := beq_eq_false_iff_ne.mpr c44
       have c44b1 : (a0_3.toList != a1_3.toList) = true := bne_iff_ne.mpr c44
       obtain rfl := Option.some.inj H
       have hnb48 := NB104_105.out
       have hnc48 := NB105_104.out
       have hcz49_0 : wc.cell? ⟨gb104, 0, none⟩ = some (.int .u32 a0_0) := (blk_cell BK104.out 0).trans rfl
       have hcz49_1 : wc.cell? ⟨gb104, 1, none⟩ = some (.int .u64 a0_1) := (blk_cell BK104.out 1).trans rfl
       have hcz49_2 : wc.cell? ⟨gb104, 2, none⟩ = some (.int .i64 a0_2) := (blk_cell BK104.out 2).trans rfl
       have hcz49_3 : wc.cell? ⟨gb104, 3, none⟩ = some (.string a0_3) := (blk_cell BK104.out 3).trans rfl
       have hcz49_4 : wc.cell? ⟨gb104, 4, none⟩ = some (.slice A0_4 l0_4.length c0_4) := (blk_cell BK104.out 4).trans rfl
       have hfz49_0 := blk_frozen BK104.out 0
       have hfz49_1 := blk_frozen BK104.out 1
       have hfz49_2 := blk_frozen BK104.out 2
       have hfz49_3 := blk_frozen BK104.out 3
       have hfz49_4 := blk_frozen BK104.out 4
       have hcz50_0 : wc.cell? ⟨gb105, 0, none⟩ = some (.int .i64 a1_0) := (blk_cell BK105.out 0).trans rfl
       have hcz50_1 : wc.cell? ⟨gb105, 1, none⟩ = some (.int .i64 a1_1) := (blk_cell BK105.out 1).trans rfl
       have hcz50_2 : wc.cell? ⟨gb105, 2, none⟩ = some (.string a1_2) := (blk_cell BK105.out 2).trans rfl
       have hcz50_3 : wc.cell? ⟨gb105, 3, none⟩ = some (.string a1_3) := (blk_cell BK105.out 3).trans rfl
       have hfz50_0 := blk_frozen BK105.out 0
       have hfz50_1 := blk_frozen BK105.out 1
       have hfz50_2 := blk_frozen BK105.out 2
       have hfz50_3 := blk_frozen BK105.out 3
       go_wp2
       go_ret
       exact ⟨by first | rfl | (simp [errW_none, errW_some] <;> rfl) | (simp [*, errW_none, errW_some] <;> rfl), by repeat (first | (with_reducible first | exact HB.out | apply below_alloc | apply pw_below_drewN | apply below_drew1 | refine below_set ?_ GE104.out | refine below_set ?_ GE105.out) | exact HB.out)⟩
     ·rw [if_neg c43] at H
      have c43b0 : (a1_0 == 5) = false := beq_eq_false_iff_ne.mpr c43
      have c43b1 : (a1_0 != 5) = true := bne_iff_ne.mpr c43
      by_cases c51 : a1_0 = 7
      ·rw [if_pos c51] at H
       have c51b0 : (a1_0 == 7) = true := beq_iff_eq.mpr c51
       have c51b1 : (a1_0 != 7) = false := bne_eq_false_iff_eq.mpr c51
       clear c51
       by_cases c52 : (l0_4.length : Int) = 0
       ·rw [if_pos c52] at H
        have c52b0 : ((l0_4.length : Int) == 0) = true := beq_iff_eq.mpr c52
        have c52b1 : ((l0_4.length : Int) != 0) = false := bne_eq_false_iff_eq.mpr c52
        clear c52
        replace H := Option.bind_eq_some_iff.mp H
        obtain ⟨t107, A530, H⟩ := H
        replace H : (if t107.toList = a1_3.toList then (some 0) else (some 31)) = some r := H
        have A53 := Aside0.mk A530
        clear A530
        by_cases c54 : t107.toList = a1_3.toList
        ·rw [if_pos c54] at H
         have c54b0 : (t107.toList == a1_3.toList) = true := beq_iff_eq.mpr c54
         have c54b1 : (t107.toList != a1_3.toList) = false := bne_eq_false_iff_eq.mpr c54
         clear c54
         obtain rfl := Option.some.inj H
         have hnb55 := NB104_105.out
         have hnc55 := NB105_104.out
         have hcz56_0 : wc.cell? ⟨gb104, 0, none⟩ = some (.int .u32 a0_0) := (blk_cell BK104.out 0).trans rfl
         have hcz56_1 : wc.cell? ⟨gb104, 1, none⟩ = some (.int .u64 a0_1) := (blk_cell BK104.out 1).trans rfl
         have hcz56_2 : wc.cell? ⟨gb104, 2, none⟩ = some (.int .i64 a0_2) := (blk_cell BK104.out 2).trans rfl
         have hcz56_3 : wc.cell? ⟨gb104, 3, none⟩ = some (.string a0_3) := (blk_cell BK104.out 3).trans rfl
         have hcz56_4 : wc.cell? ⟨gb104, 4, none⟩ = some (.slice A0_4 l0_4.length c0_4) := (blk_cell BK104.out 4).trans rfl
         have hfz56_0 := blk_frozen BK104.out 0
         have hfz56_1 := blk_frozen BK104.out 1
         have hfz56_2 := blk_frozen BK104.out 2
         have hfz56_3 := blk_frozen BK104.out 3
         have hfz56_4 := blk_frozen BK104.out 4
         try go_wp2
         have n0_ := Aside0.mk (blk_drew BK104.out)
         have n1_ := Aside0.mk (blk_drew BK105.out)
         have n2_ := Aside0.mk (below_drew1 HB.out)
         clear BK104
         clear BK105
         clear HB
         have BK104 := n0_
         have BK105 := n1_
         have HB := n2_
         clear n0_ n1_ n2_
         refine start_ (n := 8) (S := fun w' => w'.cell? ⟨gb104, 0, none⟩ = some (.int .u32 a0_0) ∧ w'.cell? ⟨gb104, 1, none⟩ = some (.int .u64 a0_1) ∧ w'.cell? ⟨gb104, 2, none⟩ = some (.int .i64 a0_2) ∧ w'.cell? ⟨gb104, 3, none⟩ = some (.string a0_3) ∧ w'.cell? ⟨gb104, 4, none⟩ = some (.slice A0_4 l0_4.length c0_4) ∧ w'.cell? ⟨gb105, 0, none⟩ = some (.int .i64 a1_0) ∧ w'.cell? ⟨gb105, 1, none⟩ = some (.int .i64 a1_1) ∧ w'.cell? ⟨gb105, 2, none⟩ = some (.string a1_2) ∧ w'.cell? ⟨gb105, 3, none⟩ = some (.string a1_3)) (ds := []) #[false, false, false, false, false, false, false, false] (by kernel_rfl) rfl rfl ⟨(blk_cell BK104.out 0).trans rfl, (blk_cell BK104.out 1).trans rfl, (blk_cell BK104.out 2).trans rfl, (blk_cell BK104.out 3).trans rfl, (blk_cell BK104.out 4).trans rfl, (blk_cell BK105.out 0).trans rfl, (blk_cell BK105.out 1).trans rfl, (blk_cell BK105.out 2).trans rfl, (blk_cell BK105.out 3).trans rfl⟩ (fun hHeld => ?_); refine with_tabW page_stands.tab19 page_stands.bits19 (fun HT_ HW_ => ?_)
         generalize wc.drew = w57 at BK104 BK105 HB hHeld ⊢
         refine pure_ (i := 0) (N := some 50) (v := ?_) (a' := ?_) #[true, false, false, false, false, false, false, false] rfl rfl (any_of HT_.out (by kernel_rfl)) (fun _ _ _ h => h) (Or.inl ⟨by rfl, ?_⟩) ?_ ?_
         rotate_left
         ·intro w'
          go_simp
          with_reducible rfl
         rotate_left
         ·simp only [Act.put, List.setIfInBounds_toArray, List.set_cons_zero, List.set_cons_succ, i64_w, i32_w]
          rfl
         refine pure_ (i := 2) (N := some 52) (v := ?_) (a' := ?_) #[true, false, true, false, false, false, false, false] rfl rfl (any_of HT_.out (by kernel_rfl)) (fun _ _ _ h => h) (Or.inl ⟨by rfl, ?_⟩) ?_ ?_
         rotate_left
         ·intro w'
          go_simp
          with_reducible rfl
         rotate_left
         ·simp only [Act.put, List.setIfInBounds_toArray, List.set_cons_zero, List.set_cons_succ, i64_w, i32_w]
          rfl
         refine pure_ (i := 5) (N := some 55) (v := ?_) (a' := ?_) #[true, false, true, false, false, true, false, false] rfl rfl (any_of HT_.out (by kernel_rfl)) (fun _ _ _ h => h) (Or.inl ⟨by rfl, ?_⟩) ?_ ?_
         rotate_left
         ·intro w'
          go_simp
          with_reducible rfl
         rotate_left
         ·simp only [Act.put, List.setIfInBounds_toArray, List.set_cons_zero, List.set_cons_succ, i64_w, i32_w]
          rfl
         refine take_ (i := 1) (N := some 51) (v := ?_) (a' := ?_) #[true, true, true, false, false, true, false, false] rfl rfl (take_ofW HT_.out HW_.out (by kernel_rfl)) (fun _ _ _ h => h) (Or.inl ⟨by rfl, ?_⟩) hHeld ?_ ?_
         rotate_left
         ·rintro w' ⟨s0, s1, s2, s3, s4, s5, s6, s7, s8⟩
          go_simp
          with_reducible rfl
         rotate_left
         ·simp only [Act.put, List.setIfInBounds_toArray, List.set_cons_zero, List.set_cons_succ, i64_w, i32_w]
          rfl
         refine take_ (i := 3) (N := some 53) (v := ?_) (a' := ?_) #[true, true, true, true, false, true, false, false] rfl rfl (take_ofW HT_.out HW_.out (by kernel_rfl)) (fun _ _ _ h => h) (Or.inl ⟨by rfl, ?_⟩) hHeld ?_ ?_
         rotate_left
         ·rintro w' ⟨s0, s1, s2, s3, s4, s5, s6, s7, s8⟩
          go_simp
          with_reducible rfl
         rotate_left
         ·simp only [Act.put, List.setIfInBounds_toArray, List.set_cons_zero, List.set_cons_succ, i64_w, i32_w]
          rfl
         refine take_ (i := 6) (N := some 56) (v := ?_) (a' := ?_) #[true, true, true, true, false, true, true, false] rfl rfl (take_ofW HT_.out HW_.out (by kernel_rfl)) (fun _ _ _ h => h) (Or.inl ⟨by rfl, ?_⟩) hHeld ?_ ?_
         rotate_left
         ·rintro w' ⟨s0, s1, s2, s3, s4, s5, s6, s7, s8⟩
          go_simp
          with_reducible rfl
         rotate_left
         ·simp only [Act.put, List.setIfInBounds_toArray, List.set_cons_zero, List.set_cons_succ, i64_w, i32_w]
          rfl
         refine one_ (i := 4) (N := some 54) #[true, true, true, true, true, true, true, false] rfl rfl (one_of HT_.out (by kernel_rfl)) (by decide) (fun K hK => ?_)
         refine goes_ Try.func19 (by kernel_rfl) rfl #[.int .i64 a0_2, .string a0_3] (by rfl) rfl rfl (by (try simp only [List.map_toArray, List.map_cons, List.map_nil]); first | done | rfl | (simp only [List.length_drop, List.length_take]; rfl)) ?_
         with_reducible refine (page_Kind.calls a0_2 a0_3 t107 _ A53.out).mono ?_
         rintro e w58 ⟨rfl, hb⟩
         refine ⟨_, rfl, ?_⟩
         have n0_ := Aside0.mk (blk_below (g := gb104) (o := .cells #[.int .u32 a0_0, .int .u64 a0_1, .int .i64 a0_2, .string a0_3, .slice A0_4 l0_4.length c0_4] 28 (0, 0)) (by (with_reducible repeat (first | refine blk_drewN ?_ _ | refine blk_drew ?_ | refine blk_alloc ?_ _)); exact BK104.out) hb)
         have n1_ := Aside0.mk (blk_below (g := gb105) (o := .cells #[.int .i64 a1_0, .int .i64 a1_1, .string a1_2, .string a1_3] 54 (0, 0)) (by (with_reducible repeat (first | refine blk_drewN ?_ _ | refine blk_drew ?_ | refine blk_alloc ?_ _)); exact BK105.out) hb)
         have n2_ := Aside0.mk (below_step (by repeat (first | (with_reducible first | exact HB.out | apply below_alloc | apply pw_below_drewN | apply below_drew1 | refine below_set ?_ GE104.out | refine below_set ?_ GE105.out) | exact HB.out)) hb)
         clear BK104
         clear BK105
         clear HB
         have BK104 := n0_
         have BK105 := n1_
         have HB := n2_
         clear n0_ n1_ n2_
         (try clear hb)
         (try clear hb2)
         (try clear hk)
         (try clear hi)
         refine hK.out _ _ ⟨(blk_cell BK104.out 0).trans rfl, (blk_cell BK104.out 1).trans rfl, (blk_cell BK104.out 2).trans rfl, (blk_cell BK104.out 3).trans rfl, (blk_cell BK104.out 4).trans rfl, (blk_cell BK105.out 0).trans rfl, (blk_cell BK105.out 1).trans rfl, (blk_cell BK105.out 2).trans rfl, (blk_cell BK105.out 3).trans rfl⟩ (fun hHeld => ?_)
         clear hK K
         refine norm_ (a' := ?_) ?_ ?_
         rotate_left
         ·show Act.put _ (some 54) _ = _
          simp only [Act.put, List.setIfInBounds_toArray, List.set_cons_zero, List.set_cons_succ, i64_w, i32_w]
          rfl
         refine pure_ (i := 7) (N := some 57) (v := ?_) (a' := ?_) #[true, true, true, true, true, true, true, true] rfl rfl (any_of HT_.out (by kernel_rfl)) (fun _ _ _ h => h) (Or.inl ⟨by rfl, ?_⟩) ?_ ?_
         rotate_left
         ·intro w'
          go_simp
          with_reducible rfl
         rotate_left
         ·simp only [Act.put, List.setIfInBounds_toArray, List.set_cons_zero, List.set_cons_succ, i64_w, i32_w]
          rfl
         refine done_ (done_of HT_.out (by kernel_rfl)) ?_
         try go_wp2
         go_ret
         exact ⟨by first | rfl | (simp [errW_none, errW_some] <;> rfl) | (simp [*, errW_none, errW_some] <;> rfl), by repeat (first | (with_reducible first | exact HB.out | apply below_alloc | apply pw_below_drewN | apply below_drew1 | refine below_set ?_ GE104.out | refine below_set ?_ GE105.out) | exact HB.out)⟩
        ·rw [if_neg c54] at H
         have c54b0 : (t107.toList == a1_3.toList) = false := beq_eq_false_iff_ne.mpr c54
         have c54b1 : (t107.toList != a1_3.toList) = true := bne_iff_ne.mpr c54
         obtain rfl := Option.some.inj H
         have hnb59 := NB104_105.out
         have hnc59 := NB105_104.out
         have hcz60_0 : wc.cell? ⟨gb104, 0, none⟩ = some (.int .u32 a0_0) := (blk_cell BK104.out 0).trans rfl
         have hcz60_1 : wc.cell? ⟨gb104, 1, none⟩ = some (.int .u64 a0_1) := (blk_cell BK104.out 1).trans rfl
         have hcz60_2 : wc.cell? ⟨gb104, 2, none⟩ = some (.int .i64 a0_2) := (blk_cell BK104.out 2).trans rfl
         have hcz60_3 : wc.cell? ⟨gb104, 3, none⟩ = some (.string a0_3) := (blk_cell BK104.out 3).trans rfl
         have hcz60_4 : wc.cell? ⟨gb104, 4, none⟩ = some (.slice A0_4 l0_4.length c0_4) := (blk_cell BK104.out 4).trans rfl
         have hfz60_0 := blk_frozen BK104.out 0
         have hfz60_1 := blk_frozen BK104.out 1
         have hfz60_2 := blk_frozen BK104.out 2
         have hfz60_3 := blk_frozen BK104.out 3
         have hfz60_4 := blk_frozen BK104.out 4
         try go_wp2
         have n0_ := Aside0.mk (blk_drew BK104.out)
         have n1_ := Aside0.mk (blk_drew BK105.out)
         have n2_ := Aside0.mk (below_drew1 HB.out)
         clear BK104
         clear BK105
         clear HB
         have BK104 := n0_
         have BK105 := n1_
         have HB := n2_
         clear n0_ n1_ n2_
         refine start_ (n := 8) (S := fun w' => w'.cell? ⟨gb104, 0, none⟩ = some (.int .u32 a0_0) ∧ w'.cell? ⟨gb104, 1, none⟩ = some (.int .u64 a0_1) ∧ w'.cell? ⟨gb104, 2, none⟩ = some (.int .i64 a0_2) ∧ w'.cell? ⟨gb104, 3, none⟩ = some (.string a0_3) ∧ w'.cell? ⟨gb104, 4, none⟩ = some (.slice A0_4 l0_4.length c0_4) ∧ w'.cell? ⟨gb105, 0, none⟩ = some (.int .i64 a1_0) ∧ w'.cell? ⟨gb105, 1, none⟩ = some (.int .i64 a1_1) ∧ w'.cell? ⟨gb105, 2, none⟩ = some (.string a1_2) ∧ w'.cell? ⟨gb105, 3, none⟩ = some (.string a1_3)) (ds := []) #[false, false, false, false, false, false, false, false] (by kernel_rfl) rfl rfl ⟨(blk_cell BK104.out 0).trans rfl, (blk_cell BK104.out 1).trans rfl, (blk_cell BK104.out 2).trans rfl, (blk_cell BK104.out 3).trans rfl, (blk_cell BK104.out 4).trans rfl, (blk_cell BK105.out 0).trans rfl, (blk_cell BK105.out 1).trans rfl, (blk_cell BK105.out 2).trans rfl, (blk_cell BK105.out 3).trans rfl⟩ (fun hHeld => ?_); refine with_tabW page_stands.tab19 page_stands.bits19 (fun HT_ HW_ => ?_)
         generalize wc.drew = w61 at BK104 BK105 HB hHeld ⊢
         refine pure_ (i := 0) (N := some 50) (v := ?_) (a' := ?_) #[true, false, false, false, false, false, false, false] rfl rfl (any_of HT_.out (by kernel_rfl)) (fun _ _ _ h => h) (Or.inl ⟨by rfl, ?_⟩) ?_ ?_
         rotate_left
         ·intro w'
          go_simp
          with_reducible rfl
         rotate_left
         ·simp only [Act.put, List.setIfInBounds_toArray, List.set_cons_zero, List.set_cons_succ, i64_w, i32_w]
          rfl
         refine pure_ (i := 2) (N := some 52) (v := ?_) (a' := ?_) #[true, false, true, false, false, false, false, false] rfl rfl (any_of HT_.out (by kernel_rfl)) (fun _ _ _ h => h) (Or.inl ⟨by rfl, ?_⟩) ?_ ?_
         rotate_left
         ·intro w'
          go_simp
          with_reducible rfl
         rotate_left
         ·simp only [Act.put, List.setIfInBounds_toArray, List.set_cons_zero, List.set_cons_succ, i64_w, i32_w]
          rfl
         refine pure_ (i := 5) (N := some 55) (v := ?_) (a' := ?_) #[true, false, true, false, false, true, false, false] rfl rfl (any_of HT_.out (by kernel_rfl)) (fun _ _ _ h => h) (Or.inl ⟨by rfl, ?_⟩) ?_ ?_
         rotate_left
         ·intro w'
          go_simp
          with_reducible rfl
         rotate_left
         ·simp only [Act.put, List.setIfInBounds_toArray, List.set_cons_zero, List.set_cons_succ, i64_w, i32_w]
          rfl
         refine take_ (i := 1) (N := some 51) (v := ?_) (a' := ?_) #[true, true, true, false, false, true, false, false] rfl rfl (take_ofW HT_.out HW_.out (by kernel_rfl)) (fun _ _ _ h => h) (Or.inl ⟨by rfl, ?_⟩) hHeld ?_ ?_
         rotate_left
         ·rintro w' ⟨s0, s1, s2, s3, s4, s5, s6, s7, s8⟩
          go_simp
          with_reducible rfl
         rotate_left
         ·simp only [Act.put, List.setIfInBounds_toArray, List.set_cons_zero, List.set_cons_succ, i64_w, i32_w]
          rfl
         refine take_ (i := 3) (N := some 53) (v := ?_) (a' := ?_) #[true, true, true, true, false, true, false, false] rfl rfl (take_ofW HT_.out HW_.out (by kernel_rfl)) (fun _ _ _ h => h) (Or.inl ⟨by rfl, ?_⟩) hHeld ?_ ?_
         rotate_left
         ·rintro w' ⟨s0, s1, s2, s3, s4, s5, s6, s7, s8⟩
          go_simp
          with_reducible rfl
         rotate_left
         ·simp only [Act.put, List.setIfInBounds_toArray, List.set_cons_zero, List.set_cons_succ, i64_w, i32_w]
          rfl
         refine take_ (i := 6) (N := some 56) (v := ?_) (a' := ?_) #[true, true, true, true, false, true, true, false] rfl rfl (take_ofW HT_.out HW_.out (by kernel_rfl)) (fun _ _ _ h => h) (Or.inl ⟨by rfl, ?_⟩) hHeld ?_ ?_
         rotate_left
         ·rintro w' ⟨s0, s1, s2, s3, s4, s5, s6, s7, s8⟩
          go_simp
          with_reducible rfl
         rotate_left
         ·simp only [Act.put, List.setIfInBounds_toArray, List.set_cons_zero, List.set_cons_succ, i64_w, i32_w]
          rfl
         refine one_ (i := 4) (N := some 54) #[true, true, true, true, true, true, true, false] rfl rfl (one_of HT_.out (by kernel_rfl)) (by decide) (fun K hK => ?_)
         refine goes_ Try.func19 (by kernel_rfl) rfl #[.int .i64 a0_2, .string a0_3] (by rfl) rfl rfl (by (try simp only [List.map_toArray, List.map_cons, List.map_nil]); first | done | rfl | (simp only [List.length_drop, List.length_take]; rfl)) ?_
         with_reducible refine (page_Kind.calls a0_2 a0_3 t107 _ A53.out).mono ?_
         rintro e w62 ⟨rfl, hb⟩
         refine ⟨_, rfl, ?_⟩
         have n0_ := Aside0.mk (blk_below (g := gb104) (o := .cells #[.int .u32 a0_0, .int .u64 a0_1, .int .i64 a0_2, .string a0_3, .slice A0_4 l0_4.length c0_4] 28 (0, 0)) (by (with_reducible repeat (first | refine blk_drewN ?_ _ | refine blk_drew ?_ | refine blk_alloc ?_ _)); exact BK104.out) hb)
         have n1_ := Aside0.mk (blk_below (g := gb105) (o := .cells #[.int .i64 a1_0, .int .i64 a1_1, .string a1_2, .string a1_3] 54 (0, 0)) (by (with_reducible repeat (first | refine blk_drewN ?_ _ | refine blk_drew ?_ | refine blk_alloc ?_ _)); exact BK105.out) hb)
         have n2_ := Aside0.mk (below_step (by repeat (first | (with_reducible first | exact HB.out | apply below_alloc | apply pw_below_drewN | apply below_drew1 | refine below_set ?_ GE104.out | refine below_set ?_ GE105.out) | exact HB.out)) hb)
         clear BK104
         clear BK105
         clear HB
         have BK104 := n0_
         have BK105 := n1_
         have HB := n2_
         clear n0_ n1_ n2_
         (try clear hb)
         (try clear hb2)
         (try clear hk)
         (try clear hi)
         refine hK.out _ _ ⟨(blk_cell BK104.out 0).trans rfl, (blk_cell BK104.out 1).trans rfl, (blk_cell BK104.out 2).trans rfl, (blk_cell BK104.out 3).trans rfl, (blk_cell BK104.out 4).trans rfl, (blk_cell BK105.out 0).trans rfl, (blk_cell BK105.out 1).trans rfl, (blk_cell BK105.out 2).trans rfl, (blk_cell BK105.out 3).trans rfl⟩ (fun hHeld => ?_)
         clear hK K
         refine norm_ (a' := ?_) ?_ ?_
         rotate_left
         ·show Act.put _ (some 54) _ = _
          simp only [Act.put, List.setIfInBounds_toArray, List.set_cons_zero, List.set_cons_succ, i64_w, i32_w]
          rfl
         refine pure_ (i := 7) (N := some 57) (v := ?_) (a' := ?_) #[true, true, true, true, true, true, true, true] rfl rfl (any_of HT_.out (by kernel_rfl)) (fun _ _ _ h => h) (Or.inl ⟨by rfl, ?_⟩) ?_ ?_
         rotate_left
         ·intro w'
          go_simp
          with_reducible rfl
         rotate_left
         ·simp only [Act.put, List.setIfInBounds_toArray, List.set_cons_zero, List.set_cons_succ, i64_w, i32_w]
          rfl
         refine done_ (done_of HT_.out (by kernel_rfl)) ?_
         try go_wp2
         go_ret
         exact ⟨by first | rfl | (simp [errW_none, errW_some] <;> rfl) | (simp [*, errW_none, errW_some] <;> rfl), by repeat (first | (with_reducible first | exact HB.out | apply below_alloc | apply pw_below_drewN | apply below_drew1 | refine below_set ?_ GE104.out | refine below_set ?_ GE105.out) | exact HB.out)⟩
       ·rw [if_neg c52] at H
        have c52b0 : ((l0_4.length : Int) == 0) = false := beq_eq_false_iff_ne.mpr c52
        have c52b1 : ((l0_4.length : Int) != 0) = true := bne_iff_ne.mpr c52
        have c52b2 : ¬ (l0_4 = []) := fun h_ => c52 (by rw [h_]; rfl)
        obtain rfl := Option.some.inj H
        have hnb63 := NB104_105.out
        have hnc63 := NB105_104.out
        have hcz64_0 : wc.cell? ⟨gb104, 0, none⟩ = some (.int .u32 a0_0) := (blk_cell BK104.out 0).trans rfl
        have hcz64_1 : wc.cell? ⟨gb104, 1, none⟩ = some (.int .u64 a0_1) := (blk_cell BK104.out 1).trans rfl
        have hcz64_2 : wc.cell? ⟨gb104, 2, none⟩ = some (.int .i64 a0_2) := (blk_cell BK104.out 2).trans rfl
        have hcz64_3 : wc.cell? ⟨gb104, 3, none⟩ = some (.string a0_3) := (blk_cell BK104.out 3).trans rfl
        have hcz64_4 : wc.cell? ⟨gb104, 4, none⟩ = some (.slice A0_4 l0_4.length c0_4) := (blk_cell BK104.out 4).trans rfl
        have hfz64_0 := blk_frozen BK104.out 0
        have hfz64_1 := blk_frozen BK104.out 1
        have hfz64_2 := blk_frozen BK104.out 2
        have hfz64_3 := blk_frozen BK104.out 3
        have hfz64_4 := blk_frozen BK104.out 4
        go_wp2
        go_ret
        exact ⟨by first | rfl | (simp [errW_none, errW_some] <;> rfl) | (simp [*, errW_none, errW_some] <;> rfl), by repeat (first | (with_reducible first | exact HB.out | apply below_alloc | apply pw_below_drewN | apply below_drew1 | refine below_set ?_ GE104.out | refine below_set ?_ GE105.out) | exact HB.out)⟩
      ·rw [if_neg c51] at H
       have c51b0 : (a1_0 == 7) = false := beq_eq_false_iff_ne.mpr c51
       have c51b1 : (a1_0 != 7) = true := bne_iff_ne.mpr c51
       by_cases c65 : a1_0 = 6
       ·rw [if_pos c65] at H
        have c65b0 : (a1_0 == 6) = true := beq_iff_eq.mpr c65
        have c65b1 : (a1_0 != 6) = false := bne_eq_false_iff_eq.mpr c65
        clear c65
        have HC66 := Aside0.mk H
        clear H
        go_upto_region 22 with (fail)
        go_cut [77] (fun v77 wc => ∃ (kq : Nat) (x77_65 : Bool), v77 = .bool x77_65 ∧ Aside0 (page_stands.j1 kq x77_65 a0_0 a0_1 a0_2 a0_3 l0_4 a1_0 a1_1 a1_2 a1_3 = some r) ∧ Aside0 (kq ≤ kj20) ∧ Aside0 (wc.heap[gb104]? = some (.cells #[.int .u32 a0_0, .int .u64 a0_1, .int .i64 a0_2, .string a0_3, (.slice A0_4 l0_4.length c0_4)] 28 (0, 0))) ∧ Aside0 (wc.heap[gb105]? = some (.cells #[.int .i64 a1_0, .int .i64 a1_1, .string a1_2, .string a1_3] 54 (0, 0))) ∧ Aside0 (Below w.heap.size w wc))
        case first =>
         have H := HC66.out
         clear HC66
         by_cases c67 : (l0_4.length : Int) = 0
         ·rw [if_pos c67] at H
          have c67b0 : ((l0_4.length : Int) == 0) = true := beq_iff_eq.mpr c67
          have c67b1 : ((l0_4.length : Int) != 0) = false := bne_eq_false_iff_eq.mpr c67
          clear c67
          (first | rw [c67b0] | (simp only [i64_w, i32_w]; rw [c67b0]) | skip)
          have H' := Aside0.mk H
          clear H
          try go_wp2
          have n0_ := Aside0.mk (blk_drew BK104.out)
          have n1_ := Aside0.mk (blk_drew BK105.out)
          have n2_ := Aside0.mk (below_drew1 HB.out)
          clear BK104
          clear BK105
          clear HB
          have BK104 := n0_
          have BK105 := n1_
          have HB := n2_
          clear n0_ n1_ n2_
          refine start_ (n := 18) (S := fun w' => w'.cell? ⟨gb104, 0, none⟩ = some (.int .u32 a0_0) ∧ w'.cell? ⟨gb104, 1, none⟩ = some (.int .u64 a0_1) ∧ w'.cell? ⟨gb104, 2, none⟩ = some (.int .i64 a0_2) ∧ w'.cell? ⟨gb104, 3, none⟩ = some (.string a0_3) ∧ w'.cell? ⟨gb104, 4, none⟩ = some (.slice A0_4 l0_4.length c0_4)) (ds := []) #[false, false, false, false, false, false, false, false, false, false, false, false, false, false, false, false, false, false] (by kernel_rfl) rfl rfl ⟨(blk_cell BK104.out 0).trans rfl, (blk_cell BK104.out 1).trans rfl, (blk_cell BK104.out 2).trans rfl, (blk_cell BK104.out 3).trans rfl, (blk_cell BK104.out 4).trans rfl⟩ (fun hHeld => ?_); refine with_tabW page_stands.tab22 page_stands.bits22 (fun HT_ HW_ => ?_)
          generalize wc.drew = w68 at BK104 BK105 HB hHeld ⊢
          refine pure_ (i := 0) (N := some 60) (v := ?_) (a' := ?_) #[true, false, false, false, false, false, false, false, false, false, false, false, false, false, false, false, false, false] rfl rfl (any_of HT_.out (by kernel_rfl)) (fun _ _ _ h => h) (Or.inl ⟨by rfl, ?_⟩) ?_ ?_
          rotate_left
          ·intro w'
           go_simp
           with_reducible rfl
          rotate_left
          ·simp only [Act.put, List.setIfInBounds_toArray, List.set_cons_zero, List.set_cons_succ, i64_w, i32_w]
           rfl
          refine take_ (i := 1) (N := some 61) (v := ?_) (a' := ?_) #[true, true, false, false, false, false, false, false, false, false, false, false, false, false, false, false, false, false] rfl rfl (take_ofW HT_.out HW_.out (by kernel_rfl)) (fun _ _ _ h => h) (Or.inl ⟨by rfl, ?_⟩) hHeld ?_ ?_
          rotate_left
          ·rintro w' ⟨s0, s1, s2, s3, s4⟩
           go_simp
           with_reducible rfl
          rotate_left
          ·simp only [Act.put, List.setIfInBounds_toArray, List.set_cons_zero, List.set_cons_succ, i64_w, i32_w]
           rfl
          refine pure_ (i := 2) (N := some 62) (v := ?_) (a' := ?_) #[true, true, true, false, false, false, false, false, false, false, false, false, false, false, false, false, false, false] rfl rfl (any_of HT_.out (by kernel_rfl)) (fun _ _ _ h => h) (Or.inl ⟨by rfl, ?_⟩) ?_ ?_
          rotate_left
          ·intro w'
           go_simp
           with_reducible rfl
          rotate_left
          ·simp only [Act.put, List.setIfInBounds_toArray, List.set_cons_zero, List.set_cons_succ, i64_w, i32_w]
           rfl
          refine pure_ (i := 3) (N := some 63) (v := ?_) (a' := ?_) #[true, true, true, true, false, false, false, false, false, false, false, false, false, false, false, false, false, false] rfl rfl (any_of HT_.out (by kernel_rfl)) (fun _ _ _ h => h) (Or.inl ⟨by rfl, ?_⟩) ?_ ?_
          rotate_left
          ·intro w'
           go_simp
           with_reducible rfl
          rotate_left
          ·simp only [Act.put, List.setIfInBounds_toArray, List.set_cons_zero, List.set_cons_succ, i64_w, i32_w]
           rfl
          refine pure_ (i := 4) (N := some 64) (v := ?_) (a' := ?_) #[true, true, true, true, true, false, false, false, false, false, false, false, false, false, false, false, false, false] rfl rfl (any_of HT_.out (by kernel_rfl)) (fun _ _ _ h => h) (Or.inl ⟨by rfl, ?_⟩) ?_ ?_
          rotate_left
          ·intro w'
           go_simp
           with_reducible rfl
          rotate_left
          ·simp only [Act.put, List.setIfInBounds_toArray, List.set_cons_zero, List.set_cons_succ, i64_w, i32_w]
           rfl
          refine pure_ (i := 5) (N := some 65) (v := undef) (a' := ?_) #[true, true, true, true, true, true, false, false, false, false, false, false, false, false, false, false, false, false] rfl rfl (any_of HT_.out (by kernel_rfl)) (fun _ _ _ h => h) (Or.inr ⟨by rfl, rfl⟩) ?_ ?_
          rotate_left
          ·simp only [Act.put, List.setIfInBounds_toArray, List.set_cons_zero, List.set_cons_succ, i64_w, i32_w]
           rfl
          refine pure_ (i := 6) (N := some 66) (v := undef) (a' := ?_) #[true, true, true, true, true, true, true, false, false, false, false, false, false, false, false, false, false, false] rfl rfl (any_of HT_.out (by kernel_rfl)) (fun _ _ _ h => h) (Or.inr ⟨by rfl, rfl⟩) ?_ ?_
          rotate_left
          ·simp only [Act.put, List.setIfInBounds_toArray, List.set_cons_zero, List.set_cons_succ, i64_w, i32_w]
           rfl
          refine pure_ (i := 7) (N := some 67) (v := undef) (a' := ?_) #[true, true, true, true, true, true, true, true, false, false, false, false, false, false, false, false, false, false] rfl rfl (any_of HT_.out (by kernel_rfl)) (fun _ _ _ h => h) (Or.inr ⟨by rfl, rfl⟩) ?_ ?_
          rotate_left
          ·simp only [Act.put, List.setIfInBounds_toArray, List.set_cons_zero, List.set_cons_succ, i64_w, i32_w]
           rfl
          refine pure_ (i := 8) (N := some 68) (v := undef) (a' := ?_) #[true, true, true, true, true, true, true, true, true, false, false, false, false, false, false, false, false, false] rfl rfl (any_of HT_.out (by kernel_rfl)) (fun _ _ _ h => h) (Or.inr ⟨by rfl, rfl⟩) ?_ ?_
          rotate_left
          ·simp only [Act.put, List.setIfInBounds_toArray, List.set_cons_zero, List.set_cons_succ, i64_w, i32_w]
           rfl
          refine pure_ (i := 9) (N := some 69) (v := undef) (a' := ?_) #[true, true, true, true, true, true, true, true, true, true, false, false, false, false, false, false, false, false] rfl rfl (any_of HT_.out (by kernel_rfl)) (fun _ _ _ h => h) (Or.inr ⟨by rfl, rfl⟩) ?_ ?_
          rotate_left
          ·simp only [Act.put, List.setIfInBounds_toArray, List.set_cons_zero, List.set_cons_succ, i64_w, i32_w]
           rfl
          refine pure_ (i := 10) (N := some 70) (v := undef) (a' := ?_) #[true, true, true, true, true, true, true, true, true, true, true, false, false, false, false, false, false, false] rfl rfl (any_of HT_.out (by kernel_rfl)) (fun _ _ _ h => h) (Or.inr ⟨by rfl, rfl⟩) ?_ ?_
          rotate_left
          ·simp only [Act.put, List.setIfInBounds_toArray, List.set_cons_zero, List.set_cons_succ, i64_w, i32_w]
           rfl
          refine pure_ (i := 11) (N := some 71) (v := undef) (a' := ?_) #[true, true, true, true, true, true, true, true, true, true, true, true, false, false, false, false, false, false] rfl rfl (any_of HT_.out (by kernel_rfl)) (fun _ _ _ h => h) (Or.inr ⟨by rfl, rfl⟩) ?_ ?_
          rotate_left
          ·simp only [Act.put, List.setIfInBounds_toArray, List.set_cons_zero, List.set_cons_succ, i64_w, i32_w]
           rfl
          refine pure_ (i := 12) (N := some 72) (v := undef) (a' := ?_) #[true, true, true, true, true, true, true, true, true, true, true, true, true, false, false, false, false, false] rfl rfl (any_of HT_.out (by kernel_rfl)) (fun _ _ _ h => h) (Or.inr ⟨by rfl, rfl⟩) ?_ ?_
          rotate_left
          ·simp only [Act.put, List.setIfInBounds_toArray, List.set_cons_zero, List.set_cons_succ, i64_w, i32_w]
           rfl
          refine pure_ (i := 13) (N := some 73) (v := undef) (a' := ?_) #[true, true, true, true, true, true, true, true, true, true, true, true, true, true, false, false, false, false] rfl rfl (any_of HT_.out (by kernel_rfl)) (fun _ _ _ h => h) (Or.inr ⟨by rfl, rfl⟩) ?_ ?_
          rotate_left
          ·simp only [Act.put, List.setIfInBounds_toArray, List.set_cons_zero, List.set_cons_succ, i64_w, i32_w]
           rfl
          refine pure_ (i := 14) (N := some 74) (v := undef) (a' := ?_) #[true, true, true, true, true, true, true, true, true, true, true, true, true, true, true, false, false, false] rfl rfl (any_of HT_.out (by kernel_rfl)) (fun _ _ _ h => h) (Or.inr ⟨by rfl, rfl⟩) ?_ ?_
          rotate_left
          ·simp only [Act.put, List.setIfInBounds_toArray, List.set_cons_zero, List.set_cons_succ, i64_w, i32_w]
           rfl
          refine pure_ (i := 15) (N := some 75) (v := undef) (a' := ?_) #[true, true, true, true, true, true, true, true, true, true, true, true, true, true, true, true, false, false] rfl rfl (any_of HT_.out (by kernel_rfl)) (fun _ _ _ h => h) (Or.inr ⟨by rfl, rfl⟩) ?_ ?_
          rotate_left
          ·simp only [Act.put, List.setIfInBounds_toArray, List.set_cons_zero, List.set_cons_succ, i64_w, i32_w]
           rfl
          refine pure_ (i := 16) (N := some 76) (v := undef) (a' := ?_) #[true, true, true, true, true, true, true, true, true, true, true, true, true, true, true, true, true, false] rfl rfl (any_of HT_.out (by kernel_rfl)) (fun _ _ _ h => h) (Or.inr ⟨by rfl, rfl⟩) ?_ ?_
          rotate_left
          ·simp only [Act.put, List.setIfInBounds_toArray, List.set_cons_zero, List.set_cons_succ, i64_w, i32_w]
           rfl
          refine pure_ (i := 17) (N := some 77) (v := ?_) (a' := ?_) #[true, true, true, true, true, true, true, true, true, true, true, true, true, true, true, true, true, true] rfl rfl (any_of HT_.out (by kernel_rfl)) (fun _ _ _ h => h) (Or.inl ⟨by rfl, ?_⟩) ?_ ?_
          rotate_left
          ·intro w'
           go_simp
           with_reducible rfl
          rotate_left
          ·simp only [Act.put, List.setIfInBounds_toArray, List.set_cons_zero, List.set_cons_succ, i64_w, i32_w]
           rfl
          refine done_ (done_of HT_.out (by kernel_rfl)) ?_
          try go_wp2
          go_meet
          case rel => exact ⟨_, (true), (by first | rfl | (simp; done) | (simp [*]; done)), H', ⟨by have := HJ20.out; first | omega | exact Nat.le_refl _⟩, ⟨by (with_reducible repeat (first | refine blk_drewN ?_ _ | refine blk_drew ?_ | refine blk_alloc ?_ _)); exact BK104.out⟩, ⟨by (with_reducible repeat (first | refine blk_drewN ?_ _ | refine blk_drew ?_ | refine blk_alloc ?_ _)); exact BK105.out⟩, ⟨by repeat (first | (with_reducible first | exact HB.out | apply below_alloc | apply pw_below_drewN | apply below_drew1 | refine below_set ?_ GE104.out | refine below_set ?_ GE105.out) | exact HB.out)⟩⟩
         ·rw [if_neg c67] at H
          have c67b0 : ((l0_4.length : Int) == 0) = false := beq_eq_false_iff_ne.mpr c67
          have c67b1 : ((l0_4.length : Int) != 0) = true := bne_iff_ne.mpr c67
          have c67b2 : ¬ (l0_4 = []) := fun h_ => c67 (by rw [h_]; rfl)
          (first | rw [c67b0] | (simp only [i64_w, i32_w]; rw [c67b0]) | skip)
          by_cases c69 : 0 < (l0_4.length : Int)
          ·rw [if_pos c69] at H
           have c69b0 : decide (0 < (l0_4.length : Int)) = true := decide_eq_true c69
           have c69b1 : decide (0 < l0_4.length) = true := decide_eq_true (by omega)
           clear c69
           have H' := Aside0.mk H
           clear H
           try go_wp2
           have n0_ := Aside0.mk (blk_drew BK104.out)
           have n1_ := Aside0.mk (blk_drew BK105.out)
           have n2_ := Aside0.mk (below_drew1 HB.out)
           clear BK104
           clear BK105
           clear HB
           have BK104 := n0_
           have BK105 := n1_
           have HB := n2_
           clear n0_ n1_ n2_
           have p108 : 0 ≤ (0 : Int) := (by omega)
           have q108 : 0 < (l0_4.length : Int) := of_decide_eq_true (by first | (with_reducible assumption) | assumption)
           obtain ⟨ad108, e108, hx108_0⟩ := Kd.at_string HR0_4.out 0 p108 q108
           have hw108_0 := hx108_0
           (try rw [show ((0 : Int)).toNat = 0 from rfl] at hw108_0)
           (try rw [show 0 * 1 = 0 from rfl] at hw108_0)
           (try rw [Addr.add_zero'] at hw108_0)
           cases e108
           have qi108 : (0 < l0_4.length) = True := eq_true (by omega)
           (try rw [show ((0 : Int)).toNat = 0 from rfl] at hx108_0)
           (try rw [Addr.add_zero'] at hx108_0)
           replace hx108_0 := (HB.out.cell (World.block_lt_of_cell? w _ hx108_0)).trans hx108_0
           replace p108 := eq_true p108
           replace q108 := eq_true q108
           refine start_ (n := 18) (S := fun w' => w'.cell? ⟨gb104, 0, none⟩ = some (.int .u32 a0_0) ∧ w'.cell? ⟨gb104, 1, none⟩ = some (.int .u64 a0_1) ∧ w'.cell? ⟨gb104, 2, none⟩ = some (.int .i64 a0_2) ∧ w'.cell? ⟨gb104, 3, none⟩ = some (.string a0_3) ∧ w'.cell? ⟨gb104, 4, none⟩ = some (.slice (some ad108) l0_4.length c0_4) ∧ w'.cell? ⟨gb105, 0, none⟩ = some (.int .i64 a1_0) ∧ w'.cell? ⟨gb105, 1, none⟩ = some (.int .i64 a1_1) ∧ w'.cell? ⟨gb105, 2, none⟩ = some (.string a1_2) ∧ w'.cell? ⟨gb105, 3, none⟩ = some (.string a1_3) ∧ w'.cell? ad108 = some (.string (rdOf ByteArray.empty l0_4 0))) (ds := []) #[false, false, false, false, false, false, false, false, false, false, false, false, false, false, false, false, false, false] (by kernel_rfl) rfl rfl ⟨(blk_cell BK104.out 0).trans rfl, (blk_cell BK104.out 1).trans rfl, (blk_cell BK104.out 2).trans rfl, (blk_cell BK104.out 3).trans rfl, (blk_cell BK104.out 4).trans rfl, (blk_cell BK105.out 0).trans rfl, (blk_cell BK105.out 1).trans rfl, (blk_cell BK105.out 2).trans rfl, (blk_cell BK105.out 3).trans rfl, ((HB.out.cell (World.block_lt_of_cell? w _ hw108_0)).trans hw108_0)⟩ (fun hHeld => ?_); refine with_tabW page_stands.tab22 page_stands.bits22 (fun HT_ HW_ => ?_)
           generalize wc.drew = w70 at BK104 BK105 HB hx108_0 hHeld ⊢
           refine pure_ (i := 0) (N := some 60) (v := ?_) (a' := ?_) #[true, false, false, false, false, false, false, false, false, false, false, false, false, false, false, false, false, false] rfl rfl (any_of HT_.out (by kernel_rfl)) (fun _ _ _ h => h) (Or.inl ⟨by rfl, ?_⟩) ?_ ?_
           rotate_left
           ·intro w'
            go_simp
            with_reducible rfl
           rotate_left
           ·simp only [Act.put, List.setIfInBounds_toArray, List.set_cons_zero, List.set_cons_succ, i64_w, i32_w]
            rfl
           refine take_ (i := 1) (N := some 61) (v := ?_) (a' := ?_) #[true, true, false, false, false, false, false, false, false, false, false, false, false, false, false, false, false, false] rfl rfl (take_ofW HT_.out HW_.out (by kernel_rfl)) (fun _ _ _ h => h) (Or.inl ⟨by rfl, ?_⟩) hHeld ?_ ?_
           rotate_left
           ·rintro w' ⟨s0, s1, s2, s3, s4, s5, s6, s7, s8, s9⟩
            go_simp
            with_reducible rfl
           rotate_left
           ·simp only [Act.put, List.setIfInBounds_toArray, List.set_cons_zero, List.set_cons_succ, i64_w, i32_w]
            rfl
           refine pure_ (i := 2) (N := some 62) (v := ?_) (a' := ?_) #[true, true, true, false, false, false, false, false, false, false, false, false, false, false, false, false, false, false] rfl rfl (any_of HT_.out (by kernel_rfl)) (fun _ _ _ h => h) (Or.inl ⟨by rfl, ?_⟩) ?_ ?_
           rotate_left
           ·intro w'
            go_simp
            with_reducible rfl
           rotate_left
           ·simp only [Act.put, List.setIfInBounds_toArray, List.set_cons_zero, List.set_cons_succ, i64_w, i32_w]
            rfl
           refine pure_ (i := 3) (N := some 63) (v := ?_) (a' := ?_) #[true, true, true, true, false, false, false, false, false, false, false, false, false, false, false, false, false, false] rfl rfl (any_of HT_.out (by kernel_rfl)) (fun _ _ _ h => h) (Or.inl ⟨by rfl, ?_⟩) ?_ ?_
           rotate_left
           ·intro w'
            go_simp
            with_reducible rfl
           rotate_left
           ·simp only [Act.put, List.setIfInBounds_toArray, List.set_cons_zero, List.set_cons_succ, i64_w, i32_w]
            rfl
           refine pure_ (i := 4) (N := some 64) (v := ?_) (a' := ?_) #[true, true, true, true, true, false, false, false, false, false, false, false, false, false, false, false, false, false] rfl rfl (any_of HT_.out (by kernel_rfl)) (fun _ _ _ h => h) (Or.inl ⟨by rfl, ?_⟩) ?_ ?_
           rotate_left
           ·intro w'
            go_simp
            with_reducible rfl
           rotate_left
           ·simp only [Act.put, List.setIfInBounds_toArray, List.set_cons_zero, List.set_cons_succ, i64_w, i32_w]
            rfl
           refine pure_ (i := 5) (N := some 65) (v := ?_) (a' := ?_) #[true, true, true, true, true, true, false, false, false, false, false, false, false, false, false, false, false, false] rfl rfl (any_of HT_.out (by kernel_rfl)) (fun _ _ _ h => h) (Or.inl ⟨by rfl, ?_⟩) ?_ ?_
           rotate_left
           ·intro w'
            go_simp
            with_reducible rfl
           rotate_left
           ·simp only [Act.put, List.setIfInBounds_toArray, List.set_cons_zero, List.set_cons_succ, i64_w, i32_w]
            rfl
           refine pure_ (i := 10) (N := some 70) (v := ?_) (a' := ?_) #[true, true, true, true, true, true, false, false, false, false, true, false, false, false, false, false, false, false] rfl rfl (any_of HT_.out (by kernel_rfl)) (fun _ _ _ h => h) (Or.inl ⟨by rfl, ?_⟩) ?_ ?_
           rotate_left
           ·intro w'
            go_simp
            with_reducible rfl
           rotate_left
           ·simp only [Act.put, List.setIfInBounds_toArray, List.set_cons_zero, List.set_cons_succ, i64_w, i32_w]
            rfl
           refine pure_ (i := 13) (N := some 73) (v := ?_) (a' := ?_) #[true, true, true, true, true, true, false, false, false, false, true, false, false, true, false, false, false, false] rfl rfl (any_of HT_.out (by kernel_rfl)) (fun _ _ _ h => h) (Or.inl ⟨by rfl, ?_⟩) ?_ ?_
           rotate_left
           ·intro w'
            go_simp
            with_reducible rfl
           rotate_left
           ·simp only [Act.put, List.setIfInBounds_toArray, List.set_cons_zero, List.set_cons_succ, i64_w, i32_w]
            rfl
           refine take_ (i := 6) (N := some 66) (v := ?_) (a' := ?_) #[true, true, true, true, true, true, true, false, false, false, true, false, false, true, false, false, false, false] rfl rfl (take_ofW HT_.out HW_.out (by kernel_rfl)) (fun _ _ _ h => h) (Or.inl ⟨by rfl, ?_⟩) hHeld ?_ ?_
           rotate_left
           ·rintro w' ⟨s0, s1, s2, s3, s4, s5, s6, s7, s8, s9⟩
            go_simp
            with_reducible rfl
           rotate_left
           ·simp only [Act.put, List.setIfInBounds_toArray, List.set_cons_zero, List.set_cons_succ, i64_w, i32_w]
            rfl
           refine pure_ (i := 7) (N := some 67) (v := ?_) (a' := ?_) #[true, true, true, true, true, true, true, true, false, false, true, false, false, true, false, false, false, false] rfl rfl (any_of HT_.out (by kernel_rfl)) (fun _ _ _ h => h) (Or.inl ⟨by rfl, ?_⟩) ?_ ?_
           rotate_left
           ·intro w'
            go_simp
            with_reducible rfl
           rotate_left
           ·simp only [Act.put, List.setIfInBounds_toArray, List.set_cons_zero, List.set_cons_succ, i64_w, i32_w]
            rfl
           refine take_ (i := 8) (N := some 68) (v := ?_) (a' := ?_) #[true, true, true, true, true, true, true, true, true, false, true, false, false, true, false, false, false, false] rfl rfl (take_ofW HT_.out HW_.out (by kernel_rfl)) (fun _ _ _ h => h) (Or.inl ⟨by rfl, ?_⟩) hHeld ?_ ?_
           rotate_left
           ·rintro w' ⟨s0, s1, s2, s3, s4, s5, s6, s7, s8, s9⟩
            go_simp
            with_reducible rfl
           rotate_left
           ·simp only [Act.put, List.setIfInBounds_toArray, List.set_cons_zero, List.set_cons_succ, i64_w, i32_w]
            rfl
           refine pure_ (i := 9) (N := some 69) (v := ?_) (a' := ?_) #[true, true, true, true, true, true, true, true, true, true, true, false, false, true, false, false, false, false] rfl rfl (any_of HT_.out (by kernel_rfl)) (fun _ _ _ h => h) (Or.inl ⟨by rfl, ?_⟩) ?_ ?_
           rotate_left
           ·intro w'
            go_simp
            with_reducible rfl
           rotate_left
           ·simp only [Act.put, List.setIfInBounds_toArray, List.set_cons_zero, List.set_cons_succ, i64_w, i32_w]
            rfl
           refine take_ (i := 11) (N := some 71) (v := ?_) (a' := ?_) #[true, true, true, true, true, true, true, true, true, true, true, true, false, true, false, false, false, false] rfl rfl (take_ofW HT_.out HW_.out (by kernel_rfl)) (fun _ _ _ h => h) (Or.inl ⟨by rfl, ?_⟩) hHeld ?_ ?_
           rotate_left
           ·rintro w' ⟨s0, s1, s2, s3, s4, s5, s6, s7, s8, s9⟩
            go_simp
            with_reducible rfl
           rotate_left
           ·simp only [Act.put, List.setIfInBounds_toArray, List.set_cons_zero, List.set_cons_succ, i64_w, i32_w]
            rfl
           refine pure_ (i := 12) (N := some 72) (v := ?_) (a' := ?_) #[true, true, true, true, true, true, true, true, true, true, true, true, true, true, false, false, false, false] rfl rfl (any_of HT_.out (by kernel_rfl)) (fun _ _ _ h => h) (Or.inl ⟨by rfl, ?_⟩) ?_ ?_
           rotate_left
           ·intro w'
            go_simp
            with_reducible rfl
           rotate_left
           ·simp only [Act.put, List.setIfInBounds_toArray, List.set_cons_zero, List.set_cons_succ, i64_w, i32_w]
            rfl
           refine take_ (i := 14) (N := some 74) (v := ?_) (a' := ?_) #[true, true, true, true, true, true, true, true, true, true, true, true, true, true, true, false, false, false] rfl rfl (take_ofW HT_.out HW_.out (by kernel_rfl)) (fun _ _ _ h => h) (Or.inl ⟨by rfl, ?_⟩) hHeld ?_ ?_
           rotate_left
           ·rintro w' ⟨s0, s1, s2, s3, s4, s5, s6, s7, s8, s9⟩
            go_simp
            with_reducible rfl
           rotate_left
           ·simp only [Act.put, List.setIfInBounds_toArray, List.set_cons_zero, List.set_cons_succ, i64_w, i32_w]
            rfl
           refine pure_ (i := 15) (N := some 75) (v := ?_) (a' := ?_) #[true, true, true, true, true, true, true, true, true, true, true, true, true, true, true, true, false, false] rfl rfl (any_of HT_.out (by kernel_rfl)) (fun _ _ _ h => h) (Or.inl ⟨by rfl, ?_⟩) ?_ ?_
           rotate_left
           ·intro w'
            go_simp
            with_reducible rfl
           rotate_left
           ·simp only [Act.put, List.setIfInBounds_toArray, List.set_cons_zero, List.set_cons_succ, i64_w, i32_w]
            rfl
           refine pure_ (i := 16) (N := some 76) (v := ?_) (a' := ?_) #[true, true, true, true, true, true, true, true, true, true, true, true, true, true, true, true, true, false] rfl rfl (any_of HT_.out (by kernel_rfl)) (fun _ _ _ h => h) (Or.inl ⟨by rfl, ?_⟩) ?_ ?_
           rotate_left
           ·intro w'
            go_simp
            with_reducible rfl
           rotate_left
           ·simp only [Act.put, List.setIfInBounds_toArray, List.set_cons_zero, List.set_cons_succ, i64_w, i32_w]
            rfl
           refine pure_ (i := 17) (N := some 77) (v := ?_) (a' := ?_) #[true, true, true, true, true, true, true, true, true, true, true, true, true, true, true, true, true, true] rfl rfl (any_of HT_.out (by kernel_rfl)) (fun _ _ _ h => h) (Or.inl ⟨by rfl, ?_⟩) ?_ ?_
           rotate_left
           ·intro w'
            go_simp
            with_reducible rfl
           rotate_left
           ·simp only [Act.put, List.setIfInBounds_toArray, List.set_cons_zero, List.set_cons_succ, i64_w, i32_w]
            rfl
           refine done_ (done_of HT_.out (by kernel_rfl)) ?_
           try go_wp2
           go_meet
           case rel => exact ⟨_, (decide ((wrap64 (((rdOf ByteArray.empty l0_4 0).size : Int) - a1_1)) < (a1_2.size : Int))), (by first | rfl | (simp; done) | (simp [*]; done)), H', ⟨by have := HJ20.out; first | omega | exact Nat.le_refl _⟩, ⟨by (with_reducible repeat (first | refine blk_drewN ?_ _ | refine blk_drew ?_ | refine blk_alloc ?_ _)); exact BK104.out⟩, ⟨by (with_reducible repeat (first | refine blk_drewN ?_ _ | refine blk_drew ?_ | refine blk_alloc ?_ _)); exact BK105.out⟩, ⟨by repeat (first | (with_reducible first | exact HB.out | apply below_alloc | apply pw_below_drewN | apply below_drew1 | refine below_set ?_ GE104.out | refine below_set ?_ GE105.out) | exact HB.out)⟩⟩
          ·rw [if_neg c69] at H
           exact absurd H (by simp)
        case rest =>
         clear HC66
         try clear c1
         try clear p1
         try clear q1
         try clear hx1
         try clear qi1
         try clear p2
         try clear c4
         try clear c5
         try clear c6
         try clear p6
         try clear p10
         try clear q10
         try clear hx10
         try clear qi10
         try clear c19
         try clear c43
         try clear c43b0
         try clear c43b1
         try clear c51
         try clear c51b0
         try clear c51b1
         try clear c52
         try clear c52b0
         try clear c52b1
         try clear c52b2
         try clear c54
         try clear c54b0
         try clear c54b1
         try clear c55
         try clear c59
         try clear c63
         try clear p64
         try clear c65
         try clear c65b0
         try clear c65b1
         try clear c67
         try clear c67b0
         try clear c67b1
         try clear c67b2
         try clear c69
         try clear c69b0
         try clear c69b1
         try clear hcz56_0
         try clear hcz56_1
         try clear hcz56_2
         try clear hcz56_3
         try clear hcz56_4
         try clear hcz60_0
         try clear hcz60_1
         try clear hcz60_2
         try clear hcz60_3
         try clear hcz60_4
         try clear hcz64_0
         try clear hcz64_1
         try clear hcz64_2
         try clear hcz64_3
         try clear hcz64_4
         try clear hfz56_0
         try clear hfz56_1
         try clear hfz56_2
         try clear hfz56_3
         try clear hfz56_4
         try clear hfz60_0
         try clear hfz60_1
         try clear hfz60_2
         try clear hfz60_3
         try clear hfz60_4
         try clear hfz64_0
         try clear hfz64_1
         try clear hfz64_2
         try clear hfz64_3
         try clear hfz64_4
         try clear hx108_0
         try clear p108
         try clear q108
         obtain ⟨kq, x77_65, rfl, HA, HJ65, BK104, BK105, HB⟩ := hcut
         cases kq with
         | zero => exact absurd HA.out (by simp [page_stands.j1])
         | succ kj65 =>
          have H := HA.out
          clear HA
          simp only [page_stands.j1] at H
          by_cases c71 : x77_65 = true
          ·subst c71
           have H1 : (some 1) = some r := by rw [if_pos rfl] at H; exact H
           clear H
           have H := H1
           clear H1
           obtain rfl := Option.some.inj H
           go_wp2
           go_ret
           exact ⟨by first | rfl | (simp [errW_none, errW_some] <;> rfl) | (simp [*, errW_none, errW_some] <;> rfl), by repeat (first | (with_reducible first | exact HB.out | apply below_alloc | apply pw_below_drewN | apply below_drew1 | refine below_set ?_ GE104.out | refine below_set ?_ GE105.out) | exact HB.out)⟩
          ·replace c71 := Bool.eq_false_iff.mpr c71
           subst c71
           have H1 : (if 0 < (l0_4.length : Int) then (if 0 ≤ a1_1 then (if a1_1 ≤ (wrap64 (a1_1 + (a1_2.size : Int))) then (if (wrap64 (a1_1 + (a1_2.size : Int))) ≤ ((rdOf ByteArray.empty l0_4 0).size : Int) then (if ((rdOf ByteArray.empty l0_4 0).extract (a1_1 : Int).toNat ((wrap64 (a1_1 + (a1_2.size : Int))) : Int).toNat).toList = a1_3.toList then (some 0) else (some 31)) else (none)) else (none)) else (none)) else (none)) = some r := by rw [if_neg (show ¬ (false = true) by decide)] at H; exact H
           clear H
           have H := H1
           clear H1
           by_cases c72 : 0 < (l0_4.length : Int)
           ·rw [if_pos c72] at H
            have c72b0 : decide (0 < (l0_4.length : Int)) = true := decide_eq_true c72
            have c72b1 : decide (0 < l0_4.length) = true := decide_eq_true (by omega)
            clear c72
            by_cases c73 : 0 ≤ a1_1
            ·rw [if_pos c73] at H
             have c73b0 := eq_true c73
             have c73b1 : decide (0 ≤ a1_1) = true := decide_eq_true c73
             clear c73
             by_cases c74 : a1_1 ≤ (wrap64 (a1_1 + (a1_2.size : Int)))
             ·rw [if_pos c74] at H
              have c74b0 := eq_true c74
              have c74b1 : decide (a1_1 ≤ (wrap64 (a1_1 + (a1_2.size : Int)))) = true := decide_eq_true c74
              by_cases c75 : (wrap64 (a1_1 + (a1_2.size : Int))) ≤ ((rdOf ByteArray.empty l0_4 0).size : Int)
              ·rw [if_pos c75] at H
               have c75b0 := eq_true c75
               have c75b1 : decide ((wrap64 (a1_1 + (a1_2.size : Int))) ≤ ((rdOf ByteArray.empty l0_4 0).size : Int)) = true := decide_eq_true c75
               by_cases c76 : ((rdOf ByteArray.empty l0_4 0).extract (a1_1 : Int).toNat ((wrap64 (a1_1 + (a1_2.size : Int))) : Int).toNat).toList = a1_3.toList
               ·rw [if_pos c76] at H
                have c76b0 : (((rdOf ByteArray.empty l0_4 0).extract (a1_1 : Int).toNat ((wrap64 (a1_1 + (a1_2.size : Int))) : Int).toNat).toList == a1_3.toList) = true := beq_iff_eq.mpr c76
                have c76b1 : (((rdOf ByteArray.empty l0_4 0).extract (a1_1 : Int).toNat ((wrap64 (a1_1 + (a1_2.size : Int))) : Int).toNat).toList != a1_3.toList) = false := bne_eq_false_iff_eq.mpr c76
                clear c76
                obtain rfl := Option.some.inj H
                try go_wp2
                have n0_ := Aside0.mk (blk_drew BK104.out)
                have n1_ := Aside0.mk (blk_drew BK105.out)
                have n2_ := Aside0.mk (below_drew1 HB.out)
                clear BK104
                clear BK105
                clear HB
                have BK104 := n0_
                have BK105 := n1_
                have HB := n2_
                clear n0_ n1_ n2_
                have p109 : 0 ≤ (0 : Int) := (by omega)
                have q109 : 0 < (l0_4.length : Int) := of_decide_eq_true (by first | (with_reducible assumption) | assumption)
                obtain ⟨ad109, e109, hx109_0⟩ := Kd.at_string HR0_4.out 0 p109 q109
                have hw109_0 := hx109_0
                (try rw [show ((0 : Int)).toNat = 0 from rfl] at hw109_0)
                (try rw [show 0 * 1 = 0 from rfl] at hw109_0)
                (try rw [Addr.add_zero'] at hw109_0)
                cases e109
                have qi109 : (0 < l0_4.length) = True := eq_true (by omega)
                (try rw [show ((0 : Int)).toNat = 0 from rfl] at hx109_0)
                (try rw [Addr.add_zero'] at hx109_0)
                replace hx109_0 := (HB.out.cell (World.block_lt_of_cell? w _ hx109_0)).trans hx109_0
                replace p109 := eq_true p109
                replace q109 := eq_true q109
                refine start_ (n := 16) (S := fun w' => w'.cell? ⟨gb104, 0, none⟩ = some (.int .u32 a0_0) ∧ w'.cell? ⟨gb104, 1, none⟩ = some (.int .u64 a0_1) ∧ w'.cell? ⟨gb104, 2, none⟩ = some (.int .i64 a0_2) ∧ w'.cell? ⟨gb104, 3, none⟩ = some (.string a0_3) ∧ w'.cell? ⟨gb104, 4, none⟩ = some (.slice (some ad109) l0_4.length c0_4) ∧ w'.cell? ⟨gb105, 0, none⟩ = some (.int .i64 a1_0) ∧ w'.cell? ⟨gb105, 1, none⟩ = some (.int .i64 a1_1) ∧ w'.cell? ⟨gb105, 2, none⟩ = some (.string a1_2) ∧ w'.cell? ⟨gb105, 3, none⟩ = some (.string a1_3) ∧ w'.cell? ad109 = some (.string (rdOf ByteArray.empty l0_4 0))) (ds := []) #[false, false, false, false, false, false, false, false, false, false, false, false, false, false, false, false] (by kernel_rfl) rfl rfl ⟨(blk_cell BK104.out 0).trans rfl, (blk_cell BK104.out 1).trans rfl, (blk_cell BK104.out 2).trans rfl, (blk_cell BK104.out 3).trans rfl, (blk_cell BK104.out 4).trans rfl, (blk_cell BK105.out 0).trans rfl, (blk_cell BK105.out 1).trans rfl, (blk_cell BK105.out 2).trans rfl, (blk_cell BK105.out 3).trans rfl, ((HB.out.cell (World.block_lt_of_cell? w _ hw109_0)).trans hw109_0)⟩ (fun hHeld => ?_); refine with_tabW page_stands.tab24 page_stands.bits24 (fun HT_ HW_ => ?_)
                generalize wc.drew = w77 at BK104 BK105 HB hx109_0 hHeld ⊢
                refine pure_ (i := 0) (N := some 78) (v := ?_) (a' := ?_) #[true, false, false, false, false, false, false, false, false, false, false, false, false, false, false, false] rfl rfl (any_of HT_.out (by kernel_rfl)) (fun _ _ _ h => h) (Or.inl ⟨by rfl, ?_⟩) ?_ ?_
                rotate_left
                ·intro w'
                 go_simp
                 with_reducible rfl
                rotate_left
                ·simp only [Act.put, List.setIfInBounds_toArray, List.set_cons_zero, List.set_cons_succ, i64_w, i32_w]
                 rfl
                refine pure_ (i := 4) (N := some 82) (v := ?_) (a' := ?_) #[true, false, false, false, true, false, false, false, false, false, false, false, false, false, false, false] rfl rfl (any_of HT_.out (by kernel_rfl)) (fun _ _ _ h => h) (Or.inl ⟨by rfl, ?_⟩) ?_ ?_
                rotate_left
                ·intro w'
                 go_simp
                 with_reducible rfl
                rotate_left
                ·simp only [Act.put, List.setIfInBounds_toArray, List.set_cons_zero, List.set_cons_succ, i64_w, i32_w]
                 rfl
                refine pure_ (i := 6) (N := some 84) (v := ?_) (a' := ?_) #[true, false, false, false, true, false, true, false, false, false, false, false, false, false, false, false] rfl rfl (any_of HT_.out (by kernel_rfl)) (fun _ _ _ h => h) (Or.inl ⟨by rfl, ?_⟩) ?_ ?_
                rotate_left
                ·intro w'
                 go_simp
                 with_reducible rfl
                rotate_left
                ·simp only [Act.put, List.setIfInBounds_toArray, List.set_cons_zero, List.set_cons_succ, i64_w, i32_w]
                 rfl
                refine pure_ (i := 8) (N := some 86) (v := ?_) (a' := ?_) #[true, false, false, false, true, false, true, false, true, false, false, false, false, false, false, false] rfl rfl (any_of HT_.out (by kernel_rfl)) (fun _ _ _ h => h) (Or.inl ⟨by rfl, ?_⟩) ?_ ?_
                rotate_left
                ·intro w'
                 go_simp
                 with_reducible rfl
                rotate_left
                ·simp only [Act.put, List.setIfInBounds_toArray, List.set_cons_zero, List.set_cons_succ, i64_w, i32_w]
                 rfl
                refine pure_ (i := 13) (N := some 91) (v := ?_) (a' := ?_) #[true, false, false, false, true, false, true, false, true, false, false, false, false, true, false, false] rfl rfl (any_of HT_.out (by kernel_rfl)) (fun _ _ _ h => h) (Or.inl ⟨by rfl, ?_⟩) ?_ ?_
                rotate_left
                ·intro w'
                 go_simp
                 with_reducible rfl
                rotate_left
                ·simp only [Act.put, List.setIfInBounds_toArray, List.set_cons_zero, List.set_cons_succ, i64_w, i32_w]
                 rfl
                refine take_ (i := 1) (N := some 79) (v := ?_) (a' := ?_) #[true, true, false, false, true, false, true, false, true, false, false, false, false, true, false, false] rfl rfl (take_ofW HT_.out HW_.out (by kernel_rfl)) (fun _ _ _ h => h) (Or.inl ⟨by rfl, ?_⟩) hHeld ?_ ?_
                rotate_left
                ·rintro w' ⟨s0, s1, s2, s3, s4, s5, s6, s7, s8, s9⟩
                 go_simp
                 with_reducible rfl
                rotate_left
                ·simp only [Act.put, List.setIfInBounds_toArray, List.set_cons_zero, List.set_cons_succ, i64_w, i32_w]
                 rfl
                refine pure_ (i := 2) (N := some 80) (v := ?_) (a' := ?_) #[true, true, true, false, true, false, true, false, true, false, false, false, false, true, false, false] rfl rfl (any_of HT_.out (by kernel_rfl)) (fun _ _ _ h => h) (Or.inl ⟨by rfl, ?_⟩) ?_ ?_
                rotate_left
                ·intro w'
                 go_simp
                 with_reducible rfl
                rotate_left
                ·simp only [Act.put, List.setIfInBounds_toArray, List.set_cons_zero, List.set_cons_succ, i64_w, i32_w]
                 rfl
                refine take_ (i := 3) (N := some 81) (v := ?_) (a' := ?_) #[true, true, true, true, true, false, true, false, true, false, false, false, false, true, false, false] rfl rfl (take_ofW HT_.out HW_.out (by kernel_rfl)) (fun _ _ _ h => h) (Or.inl ⟨by rfl, ?_⟩) hHeld ?_ ?_
                rotate_left
                ·rintro w' ⟨s0, s1, s2, s3, s4, s5, s6, s7, s8, s9⟩
                 go_simp
                 with_reducible rfl
                rotate_left
                ·simp only [Act.put, List.setIfInBounds_toArray, List.set_cons_zero, List.set_cons_succ, i64_w, i32_w]
                 rfl
                refine take_ (i := 5) (N := some 83) (v := ?_) (a' := ?_) #[true, true, true, true, true, true, true, false, true, false, false, false, false, true, false, false] rfl rfl (take_ofW HT_.out HW_.out (by kernel_rfl)) (fun _ _ _ h => h) (Or.inl ⟨by rfl, ?_⟩) hHeld ?_ ?_
                rotate_left
                ·rintro w' ⟨s0, s1, s2, s3, s4, s5, s6, s7, s8, s9⟩
                 go_simp
                 with_reducible rfl
                rotate_left
                ·simp only [Act.put, List.setIfInBounds_toArray, List.set_cons_zero, List.set_cons_succ, i64_w, i32_w]
                 rfl
                refine take_ (i := 7) (N := some 85) (v := ?_) (a' := ?_) #[true, true, true, true, true, true, true, true, true, false, false, false, false, true, false, false] rfl rfl (take_ofW HT_.out HW_.out (by kernel_rfl)) (fun _ _ _ h => h) (Or.inl ⟨by rfl, ?_⟩) hHeld ?_ ?_
                rotate_left
                ·rintro w' ⟨s0, s1, s2, s3, s4, s5, s6, s7, s8, s9⟩
                 go_simp
                 with_reducible rfl
                rotate_left
                ·simp only [Act.put, List.setIfInBounds_toArray, List.set_cons_zero, List.set_cons_succ, i64_w, i32_w]
                 rfl
                refine take_ (i := 9) (N := some 87) (v := ?_) (a' := ?_) #[true, true, true, true, true, true, true, true, true, true, false, false, false, true, false, false] rfl rfl (take_ofW HT_.out HW_.out (by kernel_rfl)) (fun _ _ _ h => h) (Or.inl ⟨by rfl, ?_⟩) hHeld ?_ ?_
                rotate_left
                ·rintro w' ⟨s0, s1, s2, s3, s4, s5, s6, s7, s8, s9⟩
                 go_simp
                 with_reducible rfl
                rotate_left
                ·simp only [Act.put, List.setIfInBounds_toArray, List.set_cons_zero, List.set_cons_succ, i64_w, i32_w]
                 rfl
                refine pure_ (i := 10) (N := some 88) (v := ?_) (a' := ?_) #[true, true, true, true, true, true, true, true, true, true, true, false, false, true, false, false] rfl rfl (any_of HT_.out (by kernel_rfl)) (fun _ _ _ h => h) (Or.inl ⟨by rfl, ?_⟩) ?_ ?_
                rotate_left
                ·intro w'
                 go_simp
                 with_reducible rfl
                rotate_left
                ·simp only [Act.put, List.setIfInBounds_toArray, List.set_cons_zero, List.set_cons_succ, i64_w, i32_w]
                 rfl
                refine pure_ (i := 11) (N := some 89) (v := ?_) (a' := ?_) #[true, true, true, true, true, true, true, true, true, true, true, true, false, true, false, false] rfl rfl (any_of HT_.out (by kernel_rfl)) (fun _ _ _ h => h) (Or.inl ⟨by rfl, ?_⟩) ?_ ?_
                rotate_left
                ·intro w'
                 go_simp
                 with_reducible rfl
                rotate_left
                ·simp only [Act.put, List.setIfInBounds_toArray, List.set_cons_zero, List.set_cons_succ, i64_w, i32_w]
                 rfl
                refine pure_ (i := 12) (N := some 90) (v := ?_) (a' := ?_) #[true, true, true, true, true, true, true, true, true, true, true, true, true, true, false, false] rfl rfl (any_of HT_.out (by kernel_rfl)) (fun _ _ _ h => h) (Or.inl ⟨by rfl, ?_⟩) ?_ ?_
                rotate_left
                ·intro w'
                 go_simp
                 with_reducible rfl
                rotate_left
                ·simp only [Act.put, List.setIfInBounds_toArray, List.set_cons_zero, List.set_cons_succ, i64_w, i32_w]
                 rfl
                refine take_ (i := 14) (N := some 92) (v := ?_) (a' := ?_) #[true, true, true, true, true, true, true, true, true, true, true, true, true, true, true, false] rfl rfl (take_ofW HT_.out HW_.out (by kernel_rfl)) (fun _ _ _ h => h) (Or.inl ⟨by rfl, ?_⟩) hHeld ?_ ?_
                rotate_left
                ·rintro w' ⟨s0, s1, s2, s3, s4, s5, s6, s7, s8, s9⟩
                 go_simp
                 with_reducible rfl
                rotate_left
                ·simp only [Act.put, List.setIfInBounds_toArray, List.set_cons_zero, List.set_cons_succ, i64_w, i32_w]
                 rfl
                refine pure_ (i := 15) (N := some 93) (v := ?_) (a' := ?_) #[true, true, true, true, true, true, true, true, true, true, true, true, true, true, true, true] rfl rfl (any_of HT_.out (by kernel_rfl)) (fun _ _ _ h => h) (Or.inl ⟨by rfl, ?_⟩) ?_ ?_
                rotate_left
                ·intro w'
                 go_simp
                 with_reducible rfl
                rotate_left
                ·simp only [Act.put, List.setIfInBounds_toArray, List.set_cons_zero, List.set_cons_succ, i64_w, i32_w]
                 rfl
                refine done_ (done_of HT_.out (by kernel_rfl)) ?_
                try go_wp2
                go_ret
                exact ⟨by first | rfl | (simp [errW_none, errW_some] <;> rfl) | (simp [*, errW_none, errW_some] <;> rfl), by repeat (first | (with_reducible first | exact HB.out | apply below_alloc | apply pw_below_drewN | apply below_drew1 | refine below_set ?_ GE104.out | refine below_set ?_ GE105.out) | exact HB.out)⟩
               ·rw [if_neg c76] at H
                have c76b0 : (((rdOf ByteArray.empty l0_4 0).extract (a1_1 : Int).toNat ((wrap64 (a1_1 + (a1_2.size : Int))) : Int).toNat).toList == a1_3.toList) = false := beq_eq_false_iff_ne.mpr c76
                have c76b1 : (((rdOf ByteArray.empty l0_4 0).extract (a1_1 : Int).toNat ((wrap64 (a1_1 + (a1_2.size : Int))) : Int).toNat).toList != a1_3.toList) = true := bne_iff_ne.mpr c76
                obtain rfl := Option.some.inj H
                try go_wp2
                have n0_ := Aside0.mk (blk_drew BK104.out)
                have n1_ := Aside0.mk (blk_drew BK105.out)
                have n2_ := Aside0.mk (below_drew1 HB.out)
                clear BK104
                clear BK105
                clear HB
                have BK104 := n0_
                have BK105 := n1_
                have HB := n2_
                clear n0_ n1_ n2_
                have p109 : 0 ≤ (0 : Int) := (by omega)
                have q109 : 0 < (l0_4.length : Int) := of_decide_eq_true (by first | (with_reducible assumption) | assumption)
                obtain ⟨ad109, e109, hx109_0⟩ := Kd.at_string HR0_4.out 0 p109 q109
                have hw109_0 := hx109_0
                (try rw [show ((0 : Int)).toNat = 0 from rfl] at hw109_0)
                (try rw [show 0 * 1 = 0 from rfl] at hw109_0)
                (try rw [Addr.add_zero'] at hw109_0)
                cases e109
                have qi109 : (0 < l0_4.length) = True := eq_true (by omega)
                (try rw [show ((0 : Int)).toNat = 0 from rfl] at hx109_0)
                (try rw [Addr.add_zero'] at hx109_0)
                replace hx109_0 := (HB.out.cell (World.block_lt_of_cell? w _ hx109_0)).trans hx109_0
                replace p109 := eq_true p109
                replace q109 := eq_true q109
                refine start_ (n := 16) (S := fun w' => w'.cell? ⟨gb104, 0, none⟩ = some (.int .u32 a0_0) ∧ w'.cell? ⟨gb104, 1, none⟩ = some (.int .u64 a0_1) ∧ w'.cell? ⟨gb104, 2, none⟩ = some (.int .i64 a0_2) ∧ w'.cell? ⟨gb104, 3, none⟩ = some (.string a0_3) ∧ w'.cell? ⟨gb104, 4, none⟩ = some (.slice (some ad109) l0_4.length c0_4) ∧ w'.cell? ⟨gb105, 0, none⟩ = some (.int .i64 a1_0) ∧ w'.cell? ⟨gb105, 1, none⟩ = some (.int .i64 a1_1) ∧ w'.cell? ⟨gb105, 2, none⟩ = some (.string a1_2) ∧ w'.cell? ⟨gb105, 3, none⟩ = some (.string a1_3) ∧ w'.cell? ad109 = some (.string (rdOf ByteArray.empty l0_4 0))) (ds := []) #[false, false, false, false, false, false, false, false, false, false, false, false, false, false, false, false] (by kernel_rfl) rfl rfl ⟨(blk_cell BK104.out 0).trans rfl, (blk_cell BK104.out 1).trans rfl, (blk_cell BK104.out 2).trans rfl, (blk_cell BK104.out 3).trans rfl, (blk_cell BK104.out 4).trans rfl, (blk_cell BK105.out 0).trans rfl, (blk_cell BK105.out 1).trans rfl, (blk_cell BK105.out 2).trans rfl, (blk_cell BK105.out 3).trans rfl, ((HB.out.cell (World.block_lt_of_cell? w _ hw109_0)).trans hw109_0)⟩ (fun hHeld => ?_); refine with_tabW page_stands.tab24 page_stands.bits24 (fun HT_ HW_ => ?_)
                generalize wc.drew = w78 at BK104 BK105 HB hx109_0 hHeld ⊢
                refine pure_ (i := 0) (N := some 78) (v := ?_) (a' := ?_) #[true, false, false, false, false, false, false, false, false, false, false, false, false, false, false, false] rfl rfl (any_of HT_.out (by kernel_rfl)) (fun _ _ _ h => h) (Or.inl ⟨by rfl, ?_⟩) ?_ ?_
                rotate_left
                ·intro w'
                 go_simp
                 with_reducible rfl
                rotate_left
                ·simp only [Act.put, List.setIfInBounds_toArray, List.set_cons_zero, List.set_cons_succ, i64_w, i32_w]
                 rfl
                refine pure_ (i := 4) (N := some 82) (v := ?_) (a' := ?_) #[true, false, false, false, true, false, false, false, false, false, false, false, false, false, false, false] rfl rfl (any_of HT_.out (by kernel_rfl)) (fun _ _ _ h => h) (Or.inl ⟨by rfl, ?_⟩) ?_ ?_
                rotate_left
                ·intro w'
                 go_simp
                 with_reducible rfl
                rotate_left
                ·simp only [Act.put, List.setIfInBounds_toArray, List.set_cons_zero, List.set_cons_succ, i64_w, i32_w]
                 rfl
                refine pure_ (i := 6) (N := some 84) (v := ?_) (a' := ?_) #[true, false, false, false, true, false, true, false, false, false, false, false, false, false, false, false] rfl rfl (any_of HT_.out (by kernel_rfl)) (fun _ _ _ h => h) (Or.inl ⟨by rfl, ?_⟩) ?_ ?_
                rotate_left
                ·intro w'
                 go_simp
                 with_reducible rfl
                rotate_left
                ·simp only [Act.put, List.setIfInBounds_toArray, List.set_cons_zero, List.set_cons_succ, i64_w, i32_w]
                 rfl
                refine pure_ (i := 8) (N := some 86) (v := ?_) (a' := ?_) #[true, false, false, false, true, false, true, false, true, false, false, false, false, false, false, false] rfl rfl (any_of HT_.out (by kernel_rfl)) (fun _ _ _ h => h) (Or.inl ⟨by rfl, ?_⟩) ?_ ?_
                rotate_left
                ·intro w'
                 go_simp
                 with_reducible rfl
                rotate_left
                ·simp only [Act.put, List.setIfInBounds_toArray, List.set_cons_zero, List.set_cons_succ, i64_w, i32_w]
                 rfl
                refine pure_ (i := 13) (N := some 91) (v := ?_) (a' := ?_) #[true, false, false, false, true, false, true, false, true, false, false, false, false, true, false, false] rfl rfl (any_of HT_.out (by kernel_rfl)) (fun _ _ _ h => h) (Or.inl ⟨by rfl, ?_⟩) ?_ ?_
                rotate_left
                ·intro w'
                 go_simp
                 with_reducible rfl
                rotate_left
                ·simp only [Act.put, List.setIfInBounds_toArray, List.set_cons_zero, List.set_cons_succ, i64_w, i32_w]
                 rfl
                refine take_ (i := 1) (N := some 79) (v := ?_) (a' := ?_) #[true, true, false, false, true, false, true, false, true, false, false, false, false, true, false, false] rfl rfl (take_ofW HT_.out HW_.out (by kernel_rfl)) (fun _ _ _ h => h) (Or.inl ⟨by rfl, ?_⟩) hHeld ?_ ?_
                rotate_left
                ·rintro w' ⟨s0, s1, s2, s3, s4, s5, s6, s7, s8, s9⟩
                 go_simp
                 with_reducible rfl
                rotate_left
                ·simp only [Act.put, List.setIfInBounds_toArray, List.set_cons_zero, List.set_cons_succ, i64_w, i32_w]
                 rfl
                refine pure_ (i := 2) (N := some 80) (v := ?_) (a' := ?_) #[true, true, true, false, true, false, true, false, true, false, false, false, false, true, false, false] rfl rfl (any_of HT_.out (by kernel_rfl)) (fun _ _ _ h => h) (Or.inl ⟨by rfl, ?_⟩) ?_ ?_
                rotate_left
                ·intro w'
                 go_simp
                 with_reducible rfl
                rotate_left
                ·simp only [Act.put, List.setIfInBounds_toArray, List.set_cons_zero, List.set_cons_succ, i64_w, i32_w]
                 rfl
                refine take_ (i := 3) (N := some 81) (v := ?_) (a' := ?_) #[true, true, true, true, true, false, true, false, true, false, false, false, false, true, false, false] rfl rfl (take_ofW HT_.out HW_.out (by kernel_rfl)) (fun _ _ _ h => h) (Or.inl ⟨by rfl, ?_⟩) hHeld ?_ ?_
                rotate_left
                ·rintro w' ⟨s0, s1, s2, s3, s4, s5, s6, s7, s8, s9⟩
                 go_simp
                 with_reducible rfl
                rotate_left
                ·simp only [Act.put, List.setIfInBounds_toArray, List.set_cons_zero, List.set_cons_succ, i64_w, i32_w]
                 rfl
                refine take_ (i := 5) (N := some 83) (v := ?_) (a' := ?_) #[true, true, true, true, true, true, true, false, true, false, false, false, false, true, false, false] rfl rfl (take_ofW HT_.out HW_.out (by kernel_rfl)) (fun _ _ _ h => h) (Or.inl ⟨by rfl, ?_⟩) hHeld ?_ ?_
                rotate_left
                ·rintro w' ⟨s0, s1, s2, s3, s4, s5, s6, s7, s8, s9⟩
                 go_simp
                 with_reducible rfl
                rotate_left
                ·simp only [Act.put, List.setIfInBounds_toArray, List.set_cons_zero, List.set_cons_succ, i64_w, i32_w]
                 rfl
                refine take_ (i := 7) (N := some 85) (v := ?_) (a' := ?_) #[true, true, true, true, true, true, true, true, true, false, false, false, false, true, false, false] rfl rfl (take_ofW HT_.out HW_.out (by kernel_rfl)) (fun _ _ _ h => h) (Or.inl ⟨by rfl, ?_⟩) hHeld ?_ ?_
                rotate_left
                ·rintro w' ⟨s0, s1, s2, s3, s4, s5, s6, s7, s8, s9⟩
                 go_simp
                 with_reducible rfl
                rotate_left
                ·simp only [Act.put, List.setIfInBounds_toArray, List.set_cons_zero, List.set_cons_succ, i64_w, i32_w]
                 rfl
                refine take_ (i := 9) (N := some 87) (v := ?_) (a' := ?_) #[true, true, true, true, true, true, true, true, true, true, false, false, false, true, false, false] rfl rfl (take_ofW HT_.out HW_.out (by kernel_rfl)) (fun _ _ _ h => h) (Or.inl ⟨by rfl, ?_⟩) hHeld ?_ ?_
                rotate_left
                ·rintro w' ⟨s0, s1, s2, s3, s4, s5, s6, s7, s8, s9⟩
                 go_simp
                 with_reducible rfl
                rotate_left
                ·simp only [Act.put, List.setIfInBounds_toArray, List.set_cons_zero, List.set_cons_succ, i64_w, i32_w]
                 rfl
                refine pure_ (i := 10) (N := some 88) (v := ?_) (a' := ?_) #[true, true, true, true, true, true, true, true, true, true, true, false, false, true, false, false] rfl rfl (any_of HT_.out (by kernel_rfl)) (fun _ _ _ h => h) (Or.inl ⟨by rfl, ?_⟩) ?_ ?_
                rotate_left
                ·intro w'
                 go_simp
                 with_reducible rfl
                rotate_left
                ·simp only [Act.put, List.setIfInBounds_toArray, List.set_cons_zero, List.set_cons_succ, i64_w, i32_w]
                 rfl
                refine pure_ (i := 11) (N := some 89) (v := ?_) (a' := ?_) #[true, true, true, true, true, true, true, true, true, true, true, true, false, true, false, false] rfl rfl (any_of HT_.out (by kernel_rfl)) (fun _ _ _ h => h) (Or.inl ⟨by rfl, ?_⟩) ?_ ?_
                rotate_left
                ·intro w'
                 go_simp
                 with_reducible rfl
                rotate_left
                ·simp only [Act.put, List.setIfInBounds_toArray, List.set_cons_zero, List.set_cons_succ, i64_w, i32_w]
                 rfl
                refine pure_ (i := 12) (N := some 90) (v := ?_) (a' := ?_) #[true, true, true, true, true, true, true, true, true, true, true, true, true, true, false, false] rfl rfl (any_of HT_.out (by kernel_rfl)) (fun _ _ _ h => h) (Or.inl ⟨by rfl, ?_⟩) ?_ ?_
                rotate_left
                ·intro w'
                 go_simp
                 with_reducible rfl
                rotate_left
                ·simp only [Act.put, List.setIfInBounds_toArray, List.set_cons_zero, List.set_cons_succ, i64_w, i32_w]
                 rfl
                refine take_ (i := 14) (N := some 92) (v := ?_) (a' := ?_) #[true, true, true, true, true, true, true, true, true, true, true, true, true, true, true, false] rfl rfl (take_ofW HT_.out HW_.out (by kernel_rfl)) (fun _ _ _ h => h) (Or.inl ⟨by rfl, ?_⟩) hHeld ?_ ?_
                rotate_left
                ·rintro w' ⟨s0, s1, s2, s3, s4, s5, s6, s7, s8, s9⟩
                 go_simp
                 with_reducible rfl
                rotate_left
                ·simp only [Act.put, List.setIfInBounds_toArray, List.set_cons_zero, List.set_cons_succ, i64_w, i32_w]
                 rfl
                refine pure_ (i := 15) (N := some 93) (v := ?_) (a' := ?_) #[true, true, true, true, true, true, true, true, true, true, true, true, true, true, true, true] rfl rfl (any_of HT_.out (by kernel_rfl)) (fun _ _ _ h => h) (Or.inl ⟨by rfl, ?_⟩) ?_ ?_
                rotate_left
                ·intro w'
                 go_simp
                 with_reducible rfl
                rotate_left
                ·simp only [Act.put, List.setIfInBounds_toArray, List.set_cons_zero, List.set_cons_succ, i64_w, i32_w]
                 rfl
                refine done_ (done_of HT_.out (by kernel_rfl)) ?_
                try go_wp2
                go_ret
                exact ⟨by first | rfl | (simp [errW_none, errW_some] <;> rfl) | (simp [*, errW_none, errW_some] <;> rfl), by repeat (first | (with_reducible first | exact HB.out | apply below_alloc | apply pw_below_drewN | apply below_drew1 | refine below_set ?_ GE104.out | refine below_set ?_ GE105.out) | exact HB.out)⟩
              ·rw [if_neg c75] at H
               exact absurd H (by simp)
             ·rw [if_neg c74] at H
              exact absurd H (by simp)
            ·rw [if_neg c73] at H
             exact absurd H (by simp)
           ·rw [if_neg c72] at H
            exact absurd H (by simp)
       ·rw [if_neg c65] at H
        have c65b0 : (a1_0 == 6) = false := beq_eq_false_iff_ne.mpr c65
        have c65b1 : (a1_0 != 6) = true := bne_iff_ne.mpr c65
        obtain rfl := Option.some.inj H
        go_wp2
        go_ret
        exact ⟨by first | rfl | (simp [errW_none, errW_some] <;> rfl) | (simp [*, errW_none, errW_some] <;> rfl), by repeat (first | (with_reducible first | exact HB.out | apply below_alloc | apply pw_below_drewN | apply below_drew1 | refine below_set ?_ GE104.out | refine below_set ?_ GE105.out) | exact HB.out)⟩
end Go.Proofs.Yteokjmjfjdgmpaa.PAp
end
