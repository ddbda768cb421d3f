/- What RawBack's row wants. -/
import Derived.Test.YtjgahidfhagafaaRowActsW
import Derived.Test.YtjgahidfhagafaaLawBack
